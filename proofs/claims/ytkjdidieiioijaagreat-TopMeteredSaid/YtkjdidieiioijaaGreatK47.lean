/- Walks. -/
import Derived.Maps.AppendAt
import Derived.OwnWalk
import Derived.Laws.MakeOwn
import Derived.Test.YtkjdidieiioijaaGreatK46
set_option linter.all false
set_option maxRecDepth 100000
set_option maxHeartbeats 16000000
namespace Go.Proofs.YtkjdidieiioijaaGreat.S
open Go.RowKit Go.Sd
theorem CZ:(Tryz.prog.info? 3).map (fun i=>(i.zero,i.size,i.bytes))=some (some (.int .i64 0),1,8):=by kernel_rfl
def bg (B:Nat)(w:World)(v:Value)(xs:List Int):Prop:=w.ownsRow B 3 1 v xs.length (xs.map (Value.int .i64))
theorem bg.nil (B:Nat)(w:World):bg B w (.slice none 0 0) []:=World.ownsRow_nil w B _ 1
theorem bg.lt {B:Nat}{w:World}{v:Value}{xs:List Int}(h:bg B w v xs):∀k,v.ownBlock=some k->B<=k/\k<w.heap.size:=World.ownsRow.lt h
theorem bg.kept {B:Nat}{w w':World}{row:Option Nat}{v:Value}{xs:List Int}(h:bg B w v xs)(hg:w.grownBy w' row)(hne:v.ownBlock=none\/v.ownBlock≠row):bg B w' v xs:=World.ownsRow.kept h hg hne
theorem n_ {w w':World}(h:Below w.heap.size w w'):w.grownBy w' none :=
 ⟨h.os,h.tape,h.output,h.size,fun k hk _=>h.block k hk⟩
theorem bg.mono {B:Nat}{w w':World}{v:Value}{xs:List Int}(h:bg B w v xs)(hb:Below w.heap.size w w'):bg B w' v xs :=
 h.kept (n_ hb) (by cases v.ownBlock <;> simp)
theorem bg.from {B B':Nat}{w:World}{v:Value}{xs:List Int}(h:bg B w v xs)(hB:B'<=B):bg B' w v xs:=by
 obtain⟨h1,h2⟩:=h
 refine⟨h1,?_⟩
 rcases h2 with h2|⟨g,cap,cur,hv,hg,r⟩
 . exact .inl h2
 . exact .inr ⟨g,cap,cur,hv,by omega,r⟩
theorem bg.at {B:Nat}{w:World}{v:Value}{xs:List Int}(h:bg B w v xs):bK w v xs:=by
 obtain⟨_,h2⟩:=h
 rcases h2 with ⟨rfl,h0⟩|⟨g,cap,cur,rfl,hB,hg,hn,hm,hs,ht⟩
 . refine⟨none,0,by rw[h0],by simp[h0],fun h=>by omega⟩
 . refine⟨some ⟨g,0,none⟩,cap,rfl,by omega,fun _=>⟨g,0,rfl,(aF hg),fun k hk=>?_⟩⟩
   rw[Nat.zero_add,cell_of_row w g k cur _ (0,0) hg]
   have h1:(cur.toList.take (xs.length*1))[k]? = (xs.map (Value.int .i64))[k]?:=by rw[ht]
   rw[List.getElem?_take,if_pos (by omega)] at h1
   simp only[List.getElem?_map,List.getElem?_eq_getElem hk,Option.map_some] at h1
   rw[<- Array.getElem?_toList,h1]
   simp[Sea.at0,hk]
theorem yH {B:Nat}{w:World}{v:Value}{xs:List Int}{y:Int}(h:w.ownsRow B 3 1 v (xs.length+1) (xs.map (Value.int .i64) ++ [.int .i64 y])):bg B w v (xs ++ [y]):=by
 unfold bg
 simpa using h
theorem Ut {B:Nat}{W w w':World}{v:Value}{xs:List Int}(hb:Below B W w)(hB:B<=w.heap.size)(ho:bg B w v xs)(hg:w.grownBy w' v.ownBlock):Below B W w' :=
 hb.grown hg hB fun k hk=>(ho.lt k hk).1
theorem grownBy_trans {a b c:World}{row:Option Nat}(h:a.grownBy b row)(k:b.grownBy c row):a.grownBy c row :=
 ⟨k.os.trans h.os,k.tape.trans h.tape,k.output.trans h.output,Nat.le_trans h.size k.size,fun i hi hne=>(k.block i (bM hi h.size) hne).trans (h.block i hi hne)⟩
theorem Rn {ops:Array Oper}{rest:List Oper}{o:Oper}{a:Act}{Q:Exit->Act->World->Prop}(hgd:o.guard=none)(s x:Operand)
    (ho:o.op=.call { callee:=.builtin .append,args:=#[s,x],argTypes:=#[50,50] })
    (B:Nat) (w:World) (v:Value) (xs:List Int) (y:Int) (hs:a.eval s=v) (hown:bg B w v xs) (hx:a.eval x=.slice (some ⟨w.heap.size,0,none⟩) 1 1)
    (hn:xs.length<=1000000) (hB:B<=w.heap.size)
    (h:∀v' w',bg B w' v' (xs ++ [y])->w.grownBy w' v.ownBlock->v'≠.slice none 0 0->(v'.ownBlock=v.ownBlock\/∃m,v'.ownBlock=some m/\w.heap.size<=m)->wpList Tryz.prog ops Q rest (a.put o.dst v') w') :
    wpList Tryz.prog ops Q (o :: rest) a (w.alloc (.cells #[.int .i64 y] 3)):=by
 obtain⟨i0,hi,hz0,hz1,hz2⟩:=info_parts CZ
 refine wpList_append_own_at _ hgd s x 50 ho B 3 i0 (.int .i64 0) 1 8 Tryz.underlying50 hi hz0 hz1 hz2 rfl (by decide) v xs.length _ hs (World.ownsRow.alloc hown _) ⟨w.heap.size,0,none⟩ 1 1 [.int .i64 y] hx rfl ?_ ?_ ?_ ?_ ?_ ?_
 . exact cell_one_new _ _ _
 . simp[Value.oneCell']
 . unfold maxLen;omega
 . omega
 . simp;omega
 . intro v' w' h1 h2 h3 h4
   refine h v' w' (yH h1) (grownBy_trans (World.grownBy_alloc w _ _) h2) (fun e=>by have:=h3.1 e;omega) ?_
   rcases h4 with h4|h4
   . exact .inl h4
   . exact .inr ⟨_,h4,by simp⟩
def iJ (vs:List Value)(i:Nat):Value:=vs.getD i (.slice none 0 0)
structure iO (B b:Nat)(w:World)(vs:List Value)(rows:List (List Int)):Prop where
 heap:w.heap[b]? = some (.cells vs.toArray 50)
 len:vs.length=rows.length
 low:B<=b
 own:∀i,i<rows.length->bg B w (iJ vs i) (Sea.fO rows i)
 ne:∀i,i<rows.length->(iJ vs i).ownBlock≠some b
 apart:∀i j,i<rows.length->j<rows.length->i≠j->(iJ vs i).ownBlock=none\/(iJ vs i).ownBlock≠(iJ vs j).ownBlock
theorem iO.grown {B b:Nat}{w w':World}{vs:List Value}{rows:List (List Int)}(h:iO B b w vs rows)(hg:w.grownBy w' none):iO B b w' vs rows :=
 ⟨(hg.block b (aF h.heap) (by simp)).trans h.heap,h.len,h.low,fun i hi=>(h.own i hi).kept hg (by cases (iJ vs i).ownBlock <;> simp),h.ne,h.apart⟩
theorem iO.mono {B b:Nat}{w w':World}{vs:List Value}{rows:List (List Int)}(h:iO B b w vs rows)(hb:Below w.heap.size w w'):iO B b w' vs rows:=h.grown (n_ hb)
theorem pU {vs:List Value}{i j:Nat}{v:Value}(hi:i<vs.length):iJ (vs.set i v) j=if j=i then v else iJ vs j:=by
 unfold iJ
 by_cases h:j=i
 . subst h;simp[hi]
 . simp[h,List.getElem?_set,Ne.symm h]
theorem adt {rows:List (List Int)}{i j:Nat}{v:List Int}(hi:i<rows.length):Sea.fO (rows.set i v) j=if j=i then v else Sea.fO rows j:=by
 unfold Sea.fO
 by_cases h:j=i
 . subst h;simp[hi]
 . simp[h,List.getElem?_set,Ne.symm h]
theorem iO.more {B b:Nat}{w w1:World}{vs:List Value}{rows:List (List Int)}{i:Nat}{v':Value}{y:Int}(h:iO B b w vs rows)(hi:i<rows.length)
    (hg:w.grownBy w1 (iJ vs i).ownBlock) (ho:bg B w1 v' (Sea.fO rows i ++ [y])) (hat:v'.ownBlock=(iJ vs i).ownBlock\/∃m,v'.ownBlock=some m/\w.heap.size<=m) :
    iO B b (w1.setCell ⟨b,i,none⟩ v') (vs.set i v') (rows.set i (Sea.fO rows i ++ [y])):=by
 have FK:i<vs.length:=by rw[h.len];exact hi
 have hlt:=(aF h.heap)
 have hb1:w1.heap[b]? = some (.cells vs.toArray 50):=(hg.block b hlt (Ne.symm (h.ne i hi))).trans h.heap
 have apU:v'.ownBlock≠some b:=by
  rcases hat with e|⟨m,e,hm⟩
  . rw[e];exact h.ne i hi
  . rw[e];intro h';cases h';omega
 have hset:w1.grownBy (w1.setCell ⟨b,i,none⟩ v') (some b):=⟨rfl,rfl,rfl,by simp[World.setCell],fun k _ hk=>Below.heap_setCell _ _ _ _ (fun e=>hk (by rw[e]))⟩
 have away:∀j,j<rows.length->j≠i->(iJ vs j).ownBlock=none\/(iJ vs j).ownBlock≠v'.ownBlock:=by
  intro j hj hji
  rcases hat with e|⟨m,e,hm⟩
  . rw[e];exact h.apart j i hj hi hji
  . rw[e]
    cases hq:(iJ vs j).ownBlock with
    | none=>exact .inl rfl
    | some q=>exact .inr (by have:=((h.own j hj).lt q hq).2;intro h';cases h';omega)
 refine⟨?_,by simp[h.len],h.low,?_,?_,?_⟩
 . simp only[World.setCell,Array.getElem?_modify,if_true,hb1]
   simp
 . intro j hj
   rw[List.length_set] at hj
   rw[pU FK,adt hi]
   by_cases hji:j=i
   . rw[if_pos hji,if_pos hji]
     exact ho.kept hset (.inr apU)
   . rw[if_neg hji,if_neg hji]
     exact((h.own j hj).kept hg (h.apart j i hj hi hji)).kept hset (.inr (h.ne j hj))
 . intro j hj
   rw[List.length_set] at hj
   rw[pU FK]
   by_cases hji:j=i
   . rw[if_pos hji];exact apU
   . rw[if_neg hji];exact h.ne j hj
 . intro j k hj hk hjk
   rw[List.length_set] at hj hk
   rw[pU FK,pU FK]
   by_cases hji:j=i
   . by_cases hki:k=i
     . omega
     . rw[if_pos hji,if_neg hki]
       rcases away k hk hki with e|e
       . rw[e];cases hq:v'.ownBlock with
         | none=>exact .inl rfl
         | some q=>exact .inr (by simp)
       . exact .inr (Ne.symm e)
   . by_cases hki:k=i
     . rw[if_neg hji,if_pos hki];exact away j hj hji
     . rw[if_neg hji,if_neg hki];exact h.apart j k hj hk hjk
theorem iO.made (B n:Nat)(w:World)(hB:B<=w.heap.size):iO B w.heap.size (w.alloc (.cells (Array.replicate n (.slice none 0 0)) 50)) (List.replicate n (.slice none 0 0)) (List.replicate n []):=by
 have hv:∀i,iJ (List.replicate n (.slice none 0 0)) i=.slice none 0 0:=by
  intro i;unfold iJ;by_cases h:i<n <;> simp[h]
 refine⟨(World.alloc_heap_new _ _).trans (by simp),by simp,hB,?_,?_,?_⟩
 . intro i hi
   rw[hv]
   have:Sea.fO (List.replicate n ([]:List Int)) i=[]:=by unfold Sea.fO;by_cases h:i<n <;> simp[h]
   rw[this]
   exact bg.nil _ _
 . intro i _;rw[hv];simp[Value.ownBlock]
 . intro i j _ _ _;rw[hv];exact .inl rfl
def TabAt (B b:Nat)(bad:List Nat)(w:World)(rows:List (List Int)):Prop :=
 ∃vs,iO B b w vs rows/\∀i,i<rows.length->∀k,k ∈ bad->(iJ vs i).ownBlock≠some k
theorem TabAt.mono {B b:Nat}{bad:List Nat}{w w':World}{rows:List (List Int)}(h:TabAt B b bad w rows)(hb:Below w.heap.size w w'):TabAt B b bad w' rows:=by
 obtain⟨vs,h1,h2⟩:=h
 exact⟨vs,h1.mono hb,h2⟩
theorem TabAt.add {B b:Nat}{bad:List Nat}{w:World}{rows:List (List Int)}(h:TabAt B b bad w rows){m:Nat}(hm:w.heap.size<=m):TabAt B b (m :: bad) w rows:=by
 obtain⟨vs,h1,h2⟩:=h
 refine⟨vs,h1,fun i hi k hk e=>?_⟩
 rcases List.mem_cons.1 hk with rfl|hk
 . have:=((h1.own i hi).lt _ e).2;omega
 . exact h2 i hi k hk e
theorem TabAt.less {B b:Nat}{bad bad':List Nat}{w:World}{rows:List (List Int)}(h:TabAt B b bad w rows)(hs:∀k,k ∈ bad'->k ∈ bad):TabAt B b bad' w rows:=by
 obtain⟨vs,h1,h2⟩:=h
 exact⟨vs,h1,fun i hi k hk=>h2 i hi k (hs k hk)⟩
theorem ahJ {B b:Nat}{bad:List Nat}{w w1:World}{vs:List Value}{rows:List (List Int)}{i:Nat}{g cap:Nat}{y:Int}(h:iO B b w vs rows)(hbad:∀i,i<rows.length->∀k,k ∈ bad->(iJ vs i).ownBlock≠some k)
    (hi:i<rows.length) (hlt:∀k,k ∈ bad->k<w.heap.size) (hbb:b ∉ bad) {n:Nat} (hn:n=(Sea.fO rows i).length)
    (hown:w1.ownsRow B 3 1 (.slice (some ⟨g,0,none⟩) (n+1) cap) (n+1) ((Sea.fO rows i).map (Value.int .i64) ++ [.int .i64 y]))
    (hg:w.grownBy w1 (iJ vs i).ownBlock) (hat:(iJ vs i).ownBlock=some g\/w.heap.size<=g) :
    TabAt B b bad (w1.setCell ⟨b,i,none⟩ (.slice (some ⟨g,0,none⟩) (n+1) cap)) (rows.set i (Sea.fO rows i ++ [y])) /\
     Kept (fun k=>k<B\/k ∈ bad) w (w1.setCell ⟨b,i,none⟩ (.slice (some ⟨g,0,none⟩) (n+1) cap)):=by
 subst hn
 have FK:i<vs.length:=by rw[h.len];exact hi
 have hm:=h.more (i:=i) (y:=y) hi hg (yH hown) (by rcases hat with e|e;exact .inl e.symm;exact .inr ⟨g,rfl,e⟩)
 refine⟨⟨_,hm,?_⟩,?_⟩
 . intro j hj k hk
   rw[List.length_set] at hj
   rw[pU FK]
   by_cases hji:j=i
   . rw[if_pos hji]
     show some g≠_
     rcases hat with e|e
     . rw[<- e];exact hbad i hi k hk
     . intro h';cases h';have:=hlt g hk;omega
   . rw[if_neg hji];exact hbad j hj k hk
 . refine(Kept.grown hg ?_).setCell (p:=⟨b,i,none⟩) (.inl ?_) _
   . rintro k - (hk|hk) e
     . have:=((h.own i hi).lt k e.symm).1;omega
     . exact hbad i hi k hk e.symm
   . rintro(hk|hk)
     . have:=h.low;have:b<B:=hk;omega
     . exact hbb hk
theorem VD {B b:Nat}{w:World}{vs:List Value}{rows:List (List Int)}(h:iO B b w vs rows){i:Nat}(hi:i<rows.length) :
    w.cell? ⟨b,i,none⟩=some (iJ vs i)/\w.frozen? ⟨b,i,none⟩=false:=by
 have hvl:i<vs.length:=by rw[h.len];exact hi
 refine⟨?_,(ah h.heap).2.2 _⟩
 rw[(ah h.heap).2.1];simp[iJ,hvl]
theorem lC {X w1:World}(h:Below X.heap.size X w1)(o:Obj):Below X.heap.size X (w1.alloc o):=h.alloc h.size o
theorem aj {X w1 w2:World}(h:Below X.heap.size X w1)(h2:Below w1.heap.size w1 w2):Below X.heap.size X w2:=h.trans (h2.mono h.size)
theorem PV {w w1:World}{o:Obj}{n:Nat}(h:Below w.heap.size w w1)(hn:w.heap[n]? = some o):w1.heap[n]? = some o :=
 (h.block _ (aF hn)).trans hn
def YN (p:Value) (w:World):Int:=match p with | .pointer (some a)=>intOf ((w.cell? a).getD (.int .i64 0))|_=>0
theorem Sr {w:World}{b o:Nat}{n:Int}(h:w.cell? ⟨b,o,none⟩=some (.int .i64 n)):YN (.pointer (some ⟨b,o,none⟩)) w=n:=by
 show intOf ((w.cell? ⟨b,o,none⟩).getD _)=n
 rw[h];rfl
theorem last_at {s:Sea.S}{k:Nat}(h:k<s.last.length):Sea.at0 s.last k=s.Gl k:=by
 simp only[Sea.S.last,List.length_map,List.length_range] at h
 simp[Sea.at0,Sea.S.last,h]
theorem Sl {n:Nat}{f:Nat->Bool}(h:∀j,j<n->f j=true):(List.range n).all f=true:=List.all_eq_true.2 fun x hx=>h x (List.mem_range.1 hx)
theorem lI {n:Nat}{f:Nat->Bool}{k:Nat}(hk:k<n)(h:f k=false):(List.range n).all f=false:=by
 rw[List.all_eq_false];exact⟨k,List.mem_range.2 hk,by rw[h];exact Bool.false_ne_true⟩
theorem upto_succ {p:Nat->Prop}{k:Nat}(h:∀j,j<k->p j)(hk:p k):∀j,j<k+1->p j:=fun j hj=>by
 rcases Nat.lt_succ_iff_lt_or_eq.1 hj with h'|rfl
 . exact h j h'
 . exact hk
theorem agq {s:Sea.S}(ok:Sea.Ok s){d:Nat}(hd:d<s.days.length)(fill aY:Int)(next:List Int)(c:Int)(hc:0<=c)(hc2:c<=100000000000)
    (hn:∀i,-c<=Sea.at0 next i):∀k:Nat,(k:Int)<=(Sea.aP s.days d).take+(Sea.aP s.days d).offer+1 ->
    -(c+100000000)<=(Sea.uG s d fill aY next k).1/\(Sea.uG s d fill aY next k).1<=Sea.never:=by
 intro k
 have hb:=ok.days d hd
 induction k with
 | zero=>intro _;unfold Sea.uG Sea.never;omega
 | succ k ih =>
  intro hk
  have ih:=ih (by omega)
  rw[Sea.uG]
  split
  . have h1:=aan ok hd (x:=(k:Int) - (Sea.aP s.days d).take) (by omega)
    have h2:=hn (fill+aY+((k:Int) - (Sea.aP s.days d).take)).toNat
    rename_i h
    have:=h.2.2
    show -(c+100000000)<=s.cost _ _+_/\s.cost _ _+_<=Sea.never
    omega
  . exact ih
theorem aam {l:List Int}{i:Nat}(h:l.length<=i):Sea.at0 l i=0:=by
 unfold Sea.at0;simp[List.getElem?_eq_none h]
theorem ah9 {n:Nat}{f:Nat->Int}{i:Nat}(h:i<n):Sea.at0 ((List.range n).map f) i=f i:=by
 unfold Sea.at0;simp[h]
theorem Pz {s:Sea.S}(ok:Sea.Ok s)(aN:List Int):∀j:Nat,j<=s.days.length->∀i,-(100000000*(j:Int))<=Sea.at0 (s.vals aN j) i/\Sea.at0 (s.vals aN j) i<=Sea.never:=by
 intro j
 have hl:=ok.ab9
 induction j with
 | zero =>
  intro _ i
  by_cases hi:i<(s.space+1).toNat
  . rw[show s.vals aN 0=s.last from rfl,last_at (by unfold Sea.S.last;simpa using hi)]
    unfold Sea.S.Gl Sea.never;split <;> omega
  . rw[aam (by rw[Sea.S.vals_length];omega)];unfold Sea.never;omega
 | succ j ih =>
  intro hj i
  have ih:=ih (by omega)
  by_cases hi:i<(s.space+1).toNat
  . rw[Sea.S.vals,ah9 hi]
    have hd:s.days.length - 1 - j<s.days.length:=by omega
    have hdk:=ok.days _ hd
    have:=agq ok hd (i:Int) (Sea.at0 aN (s.days.length - 1 - j)) (s.vals aN j) (100000000*(j:Int)) (by omega) (by omega) (fun i=>(ih i).1) _ (by rw[Int.toNat_of_nonneg];exact Int.le_refl _;omega)
    unfold Sea.S.least
    exact⟨by have:=this.1;omega,this.2⟩
  . rw[aam (by rw[Sea.S.vals_length];omega)];unfold Sea.never;omega
theorem Uf {s:Sea.S}(ok:Sea.Ok s)(aN:List Int){j d f:Nat}(hd:d+1+j=s.days.length)(hf:(f:Int)<=s.space) :
    (s.vals aN (j+1))[f]? = some (cZ (dW s d f (Sea.at0 aN d) (s.vals aN j)) (dC s d f (Sea.at0 aN d))).1:=by
 have hsp:=ok.space
 have e:s.days.length - 1 - j=d:=by omega
 have h:=(S9 s d f (Sea.at0 aN d) (s.vals aN j) (fun i=>(Pz ok aN j (by omega) i).2)).1
 rw[Sea.S.vals,List.getElem?_map,List.getElem?_range (by omega),Option.map_some,e,h]
theorem IX {s:Sea.S}(ok:Sea.Ok s){aN:List Int}(h:s.tH aN=true):aN.length=s.days.length/\∀k,k<s.days.length->-100<=Sea.at0 aN k/\Sea.at0 aN k<=100:=by
 unfold Sea.S.tH at h
 rw[Bool.and_eq_true,decide_eq_true_eq,List.all_eq_true] at h
 refine⟨h.1,fun k hk=>?_⟩
 have h1:=Sea.eP.1 (h.2 k (by rw[List.mem_range,h.1];exact hk))
 have h2:=ok.days k hk
 omega
end Go.Proofs.YtkjdidieiioijaaGreat.S
namespace Go.Proofs.YtkjdidieiioijaaGreat.S
open Go.Sd
def jL (s:Sea.S)(aN:List Int):Nat->List Int × Int
 | 0=>([],s.start)
 | t+1 =>
  let x:=(s.least t (jL s aN t).2 (Sea.at0 aN t) (s.vals aN (s.days.length - 1 - t))).2
  ((jL s aN t).1 ++ [x],(jL s aN t).2+Sea.at0 aN t+x)
def sH (s:Sea.S)(aN:List Int):Int:=Sea.at0 (s.vals aN s.days.length) s.start.toNat
def yQ (s:Sea.S)(aN:List Int):List Int × Int × Int :=
 if Sea.iU s=true/\s.tH aN=true then(if sH s aN=Sea.never then([],0,5) else((jL s aN s.days.length).1,sH s aN,0)) else([],0,2)
theorem V_ {s:Sea.S}{aN:List Int}(h1:Sea.iU s=true)(h2:s.tH aN=true)(h:sH s aN=Sea.never):yQ s aN=([],0,5):=by
 unfold yQ;rw[if_pos ⟨h1,h2⟩,if_pos h]
theorem YI {s:Sea.S}{aN:List Int}(h1:Sea.iU s=true)(h2:s.tH aN=true)(h:¬ sH s aN=Sea.never):yQ s aN=((jL s aN s.days.length).1,sH s aN,0):=by
 unfold yQ;rw[if_pos ⟨h1,h2⟩,if_neg h]
theorem Qz (s:Sea.S)(aN:List Int):∀t,(jL s aN t).1.length=t
 | 0=>rfl
 | t+1=>by simp[jL,Qz s aN t]
theorem ac8 (num:Int->Int)(xs:List Int):∀u,(cZ num xs).2=some u->(cZ num xs).1=num u:=by
 have:∀(xs:List Int) (b:Int × Option Int),(∀u,b.2=some u->b.1=num u)->∀u,(xs.foldl (pick num) b).2=some u->(xs.foldl (pick num) b).1=num u:=by
  intro xs
  induction xs with
  | nil=>intro b hb u;exact hb u
  | cons x xs ih =>
   intro b hb
   refine ih _ fun u hu=>?_
   unfold pick at hu ⊢
   split at hu
   . rename_i h;rw[if_pos h];simp at hu;subst hu;rfl
   . rename_i h;rw[if_neg h];exact hb u hu
 exact this xs (Sea.never,none) (fun u h=>by cases h)
theorem akp {s:Sea.S}(ok:Sea.Ok s)(aN:List Int){d j:Nat}{f:Int}(hd:d+1+j=s.days.length)(hf:0<=f/\f<=s.space)(h:Sea.at0 (s.vals aN (j+1)) f.toNat<Sea.never) :
    ∃u,u ∈ dC s d f (Sea.at0 aN d)/\(cZ (dW s d f (Sea.at0 aN d) (s.vals aN j)) (dC s d f (Sea.at0 aN d))).2=some u /\
     (s.least d f (Sea.at0 aN d) (s.vals aN j)).2=u/\0<=f+Sea.at0 aN d+u/\f+Sea.at0 aN d+u<=s.space/\Sea.at0 (s.vals aN j) (f+Sea.at0 aN d+u).toNat<Sea.never /\
     Sea.at0 (s.vals aN (j+1)) f.toNat=s.cost d u+Sea.at0 (s.vals aN j) (f+Sea.at0 aN d+u).toNat:=by
 obtain⟨k,rfl⟩:=Int.eq_ofNat_of_zero_le hf.1
 rw[Int.toNat_natCast] at h ⊢
 have hv:=Uf ok aN hd (f:=k) hf.2
 have hbd:=fun i=>Pz ok aN j (by omega) i
 obtain⟨h1,h2⟩:=S9 s d k (Sea.at0 aN d) (s.vals aN j) (fun i=>(hbd i).2)
 have hat:Sea.at0 (s.vals aN (j+1)) k=(cZ (dW s d k (Sea.at0 aN d) (s.vals aN j)) (dC s d k (Sea.at0 aN d))).1:=by
  unfold Sea.at0 at hv ⊢;rw[List.getD_eq_getElem?_getD,hv];rfl
 rw[hat] at h ⊢
 rcases h2 with ⟨-,h3⟩|⟨u,h3,h4,h5⟩
 . rw[h3] at h;unfold Sea.never at h;omega
 . have ho:=Qv ok (by omega) h4
   have hw:=ac8 (dW s d k (Sea.at0 aN d) (s.vals aN j)) (dC s d k (Sea.at0 aN d)) u h3
   have hne:Sea.at0 (s.vals aN j) ((k:Int)+Sea.at0 aN d+u).toNat≠Sea.never:=by
    intro e
    rw[hw] at h
    unfold dW at h
    rw[if_pos e] at h
    unfold Sea.never at h;omega
   refine⟨u,h4,h3,?_,ho.2.2.2.1,ho.2.2.2.2,?_,?_⟩
   . have:=congrArg Prod.snd h1
     rw[this,h3];rfl
   . have:=(hbd ((k:Int)+Sea.at0 aN d+u).toNat).2
     omega
   . rw[hw];unfold dW;rw[if_neg hne]
