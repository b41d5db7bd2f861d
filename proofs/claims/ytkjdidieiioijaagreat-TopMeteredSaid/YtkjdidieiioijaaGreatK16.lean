/- Walks. -/
import Derived.ArgAppend
import Derived.Test.YtkjdidieiioijaaGreatK15
set_option linter.all false
set_option maxRecDepth 100000
set_option maxHeartbeats 16000000
namespace Go.Proofs.YtkjdidieiioijaaGreat.B
open Go.RowKit Go.Sd Wl L
theorem Js (b off n:Nat):(⟨b,off,none⟩:Addr).add n=⟨b,off+n,none⟩:=by
 unfold Addr.add
 by_cases h0:n=0 <;> simp[h0]
def oZ (B:Nat)(w:World)(v:Value)(xs:List Int):Prop :=
 (v=.slice none 0 0/\xs=[])\/∃g off cap cur,v=.slice (some ⟨g,off,none⟩) xs.length cap/\B<=g/\w.heap[g]? = some (.cells cur 3 (0,0))/\xs.length<=cap/\cap<=maxLen/\off+cap<=cur.size /\
  ∀k,k<xs.length->cur[off+k]? = some (.int .i64 (xs.getD k 0))
theorem oZ.nil (B:Nat)(w:World):oZ B w (.slice none 0 0) []:=.inl ⟨rfl,rfl⟩
theorem oZ.slice {B:Nat}{w:World}{v:Value}{xs:List Int}(h:oZ B w v xs):∃a cap,v=.slice a xs.length cap:=by
 rcases h with ⟨rfl,rfl⟩|⟨g,off,cap,cur,rfl,-⟩
 . exact⟨none,0,rfl⟩
 . exact⟨_,cap,rfl⟩
theorem oZ.lt {B:Nat}{w:World}{v:Value}{xs:List Int}(h:oZ B w v xs):∀k,v.ownBlock=some k->B<=k/\k<w.heap.size:=by
 rcases h with ⟨rfl,rfl⟩|⟨g,off,cap,cur,rfl,hB,hg,-⟩
 . intro k h;cases h
 . intro k h
   obtain rfl:g=k:=by simpa [Value.ownBlock] using h
   exact⟨hB,(aF hg)⟩
theorem oZ.same {B:Nat}{w w':World}{v:Value}{xs:List Int}(h:oZ B w v xs)(hb:∀k,v.ownBlock=some k->w'.heap[k]? = w.heap[k]?):oZ B w' v xs:=by
 rcases h with h|⟨g,off,cap,cur,rfl,hB,hg,r⟩
 . exact .inl h
 . exact .inr ⟨g,off,cap,cur,rfl,hB,(hb g rfl).trans hg,r⟩
theorem oZ.mono {B:Nat}{w w':World}{v:Value}{xs:List Int}(h:oZ B w v xs)(hb:Below w.heap.size w w'):oZ B w' v xs:=h.same fun k hk=>hb.block _ (h.lt k hk).2
theorem oZ.kept {B:Nat}{S:Nat->Prop}{w w':World}{v:Value}{xs:List Int}(h:oZ B w v xs)(hk:Kept S w w')(hs:∀k,v.ownBlock=some k->S k):oZ B w' v xs:=h.same fun k e=>hk.block _ (h.lt k e).2 (hs k e)
theorem oZ.Zq {B:Nat}{w:World}{v:Value}{xs:List Int}(h:w.ownsRow B 3 1 v xs.length (xs.map (Value.int .i64))):oZ B w v xs:=by
 obtain⟨-,h2⟩:=h
 rcases h2 with ⟨rfl,h0⟩|⟨g,cap,cur,rfl,hB,hg,hn,hm,hs,ht⟩
 . exact .inl ⟨rfl,List.eq_nil_of_length_eq_zero h0⟩
 . refine .inr ⟨g,0,cap,cur,rfl,hB,hg,hn,hm,by omega,fun k hk=>?_⟩
   have h1:(cur.toList.take (xs.length*1))[k]? = (xs.map (Value.int .i64))[k]?:=by rw[ht]
   rw[List.getElem?_take,if_pos (by omega)] at h1
   simp only[List.getElem?_map,List.getElem?_eq_getElem hk,Option.map_some] at h1
   rw[Nat.zero_add,<- Array.getElem?_toList,h1]
   simp[hk]
theorem oZ.not_def {B:Nat}{w:World}{v:Value}{xs:List Int}(h:oZ B w v xs){j:Nat}{d:Option (List Deferred)}(hj:w.heap[j]? = some (.deferred d)):v.ownBlock≠some j:=by
 rcases h with ⟨rfl,rfl⟩|⟨g,off,cap,cur,rfl,hB,hg,-⟩
 . intro h;cases h
 . intro h;cases h;rw[hg] at hj;cases hj
theorem oZ.cell {B g off n cap:Nat}{w:World}{xs:List Int}(h:oZ B w (.slice (some ⟨g,off,none⟩) n cap) xs){k:Nat}(hk:k<xs.length):w.cell? ⟨g,off+k,none⟩=some (.int .i64 (xs.getD k 0)):=by
 rcases h with ⟨h,-⟩|⟨g',off',cap',cur,e,-,hg,-,-,-,hc⟩
 . cases h
 . simp only[Value.slice.injEq,Option.some.injEq,Addr.mk.injEq] at e
   obtain⟨⟨rfl,rfl,-⟩,-,-⟩:=e
   rw[cell_of_row w g (off+k) cur _ (0,0) hg]
   exact hc k hk
theorem oZ.tail {B g off n cap:Nat}{w:World}{x:Int}{xs:List Int}(h:oZ B w (.slice (some ⟨g,off,none⟩) n cap) (x :: xs))(hc:1<cap):oZ B w (.slice (some ⟨g,off+1,none⟩) xs.length (cap - 1)) xs:=by
 rcases h with ⟨h,-⟩|⟨g',off',cap',cur,e,hB,hg,h1,h2,h3,h4⟩
 . cases h
 . simp only[Value.slice.injEq,Option.some.injEq,Addr.mk.injEq] at e
   obtain⟨⟨rfl,rfl,-⟩,-,rfl⟩:=e
   simp only[List.length_cons] at h1
   refine .inr ⟨g,off+1,cap - 1,cur,rfl,hB,hg,by omega,by omega,by omega,fun k hk=>?_⟩
   have:=h4 (k+1) (by simp only[List.length_cons];omega)
   rw[show off+(k+1)=off+1+k by omega] at this
   rw[this]
   simp
theorem oZ.aqN {B g off n:Nat}{w:World}{x:Int}{xs:List Int}(h:oZ B w (.slice (some ⟨g,off,none⟩) n 1) (x :: xs)):xs=[]/\oZ B w (.slice (some ⟨g,off,none⟩) 0 0) xs:=by
 rcases h with ⟨h,-⟩|⟨g',off',cap',cur,e,hB,hg,h1,h2,h3,h4⟩
 . cases h
 . simp only[Value.slice.injEq,Option.some.injEq,Addr.mk.injEq] at e
   obtain⟨⟨rfl,rfl,-⟩,-,rfl⟩:=e
   simp only[List.length_cons] at h1
   obtain rfl:xs=[]:=List.eq_nil_of_length_eq_zero (by omega)
   exact⟨rfl,.inr ⟨g,off,0,cur,rfl,hB,hg,by simp,by simp,by omega,fun k hk=>by simp at hk⟩⟩
theorem oZ.cap {B g off n cap:Nat}{w:World}{x:Int}{xs:List Int}(h:oZ B w (.slice (some ⟨g,off,none⟩) n cap) (x :: xs)):1<=cap/\n=xs.length+1/\n<=cap/\cap<=9223372036854775807:=by
 rcases h with ⟨h,-⟩|⟨g',off',cap',cur,e,hB,hg,h1,h2,h3,h4⟩
 . cases h
 . simp only[Value.slice.injEq,Option.some.injEq,Addr.mk.injEq] at e
   obtain⟨⟨rfl,rfl,-⟩,rfl,rfl⟩:=e
   simp only[List.length_cons] at h1
   unfold maxLen at h2
   exact⟨by omega,by simp,h1,by omega⟩
theorem agc:(Tryz.prog.info? 3).map (fun i=>(i.zero,i.size,i.bytes))=some (some (.int .i64 0),1,8):=by kernel_rfl
theorem Tn {B:Nat}{w:World}{v:Value}{n:Nat}{ks:List Value}(h:w.ownsRow B 3 1 v (n+1) ks):∃m,v.ownBlock=some m/\B<=m:=by
 obtain⟨-,h2⟩:=h
 rcases h2 with ⟨rfl,h0⟩|⟨g,cap,cur,rfl,hB,-⟩
 . omega
 . exact⟨g,rfl,hB⟩
theorem aX {w:World}{g:Nat}{cur:Array Value}{t:TypeId}(h:w.heap[g]? = some (.cells cur t (0,0)))(i:Nat)(u:Value):(w.setCell ⟨g,i,none⟩ u).heap[g]? = some (.cells (cur.setIfInBounds i u) t (0,0)):=by
 simp only[World.setCell,Array.getElem?_modify,if_true,h]
 rfl
theorem Gu (B:Nat)(ty:TypeId)(w:World)(v:Value)(xs:List Int)(y:Int)(vb c:Nat)(hq:oZ B w v xs)(hn:xs.length<=100000000)(hB:B<=w.heap.size)(hy:w.cell? ⟨vb,0,none⟩=some (.int .i64 y)) :
    ∃v' w',(Builtin.append_ #[50,50] ty #[v,.slice (some ⟨vb,0,none⟩) 1 c]).run Tryz.prog w=.ok v' w'/\oZ B w' v' (xs ++ [y])/\Kept (fun k=>some k≠v.ownBlock) w w' /\
     (v'.ownBlock=v.ownBlock\/∃m,v'.ownBlock=some m/\w.heap.size<=m):=by
 obtain⟨i0,hi,hz0,hz1,hz2⟩:=info_parts agc
 have hnews:∀(j:Nat) u,[Value.int .i64 y][j]? = some u->w.cell? ((⟨vb,0,none⟩:Addr).add j)=some u:=by
  intro j u hj
  cases j with
  | zero=>simp only[List.getElem?_cons_zero,Option.some.injEq] at hj;subst hj;exact hy
  | succ j=>simp at hj
 have h1c:∀u ∈ [Value.int .i64 y],u.oneCell'=true:=by simp[Value.oneCell']
 rcases hq with ⟨rfl,rfl⟩|⟨g,off,cap,cur,rfl,hBg,hg,hle,hmx,hsz,hc⟩
 . obtain⟨v',w',hrun,r1,r2,r3,r4⟩:=run_append_own_at (P:=Tryz.prog) w B 50 ty 3 i0 _ 1 8 Tryz.underlying50 hi hz0 hz1 hz2 rfl (by decide) (.slice none 0 0) 0 [] (World.ownsRow_nil w B _ 1)
    ⟨vb,0,none⟩ 1 c [.int .i64 y] rfl hnews h1c (by unfold maxLen;omega) (by omega) hB
   refine⟨v',w',hrun,oZ.Zq (by simpa using r1),.grown r2 fun k _ h=>by simp[Value.ownBlock],?_⟩
   rcases r4 with h|h
   . exact .inl h
   . exact .inr ⟨_,h,Nat.le_refl _⟩
 . have holds:∀(j:Nat) u,(xs.map (Value.int .i64))[j]? = some u->w.cell? ((⟨g,off,none⟩:Addr).add j)=some u:=by
    intro j u hj
    have hjl:j<xs.length:=by
     rcases Nat.lt_or_ge j xs.length with h|h
     . exact h
     . rw[List.getElem?_eq_none (by simpa using h)] at hj;cases hj
    rw[Js,cell_of_row w g (off+j) cur _ (0,0) hg,hc j hjl]
    rw[List.getElem?_map,List.getElem?_eq_getElem hjl] at hj
    simpa [hjl] using hj
   have hbytes:(xs.length+1)*8<=140737488355328:=by omega
   by_cases hr:xs.length+1<=cap
   . have hrun:=run_append_room_cells (P:=Tryz.prog) w 50 ty 3 i0 Tryz.underlying50 hi g off xs.length cap ⟨vb,0,none⟩ 1 c [.int .i64 y] (by rw[hz1];rfl) hnews h1c hr
      (fun j hj=>by
       obtain rfl:j=0:=by simp at hj;omega
       rw[hz1,Nat.mul_one,Nat.add_zero,cell_of_row w g _ cur _ (0,0) hg]
       rw[Array.getElem?_eq_getElem (by omega)];rfl)
      (fun j hj=>by
       obtain rfl:j=0:=by simp at hj;omega
       rw[hz1,Nat.mul_one,Nat.add_zero]
       exact frozen_of_row w g _ cur _ hg)
     rw[hz1,Nat.mul_one] at hrun
     refine⟨_,_,hrun,?_,(Kept.refl _ w).setCell (p:=⟨g,off+xs.length,none⟩) (.inl (by simp[Value.ownBlock])) _,.inl rfl⟩
     refine .inr ⟨g,off,cap,cur.setIfInBounds (off+xs.length) (.int .i64 y),by simp,hBg,aX hg _ _,by simpa using hr,hmx,by simpa using hsz,fun k hk=>?_⟩
     by_cases e:k=xs.length
     . subst e
       rw[Array.getElem?_setIfInBounds_self_of_lt (by omega)]
       simp
     . have hk':k<xs.length:=by simp only[List.length_append,List.length_cons,List.length_nil] at hk;omega
       rw[Array.getElem?_setIfInBounds_ne (by omega),hc k hk']
       simp[hk',List.getElem?_append_left hk']
   . obtain⟨v',w',hrun,r1,r2⟩:=run_append_arg_grows (P:=Tryz.prog) w 50 ty 3 i0 _ 1 8 Tryz.underlying50 hi hz0 hz1 hz2 rfl (by decide) ⟨g,off,none⟩ xs.length cap (xs.map (Value.int .i64)) (by simp) holds
      ⟨vb,0,none⟩ 1 c [.int .i64 y] rfl hnews (by omega) (by unfold maxLen;omega) hbytes
     refine⟨v',w',hrun,?_,.grown r2 fun k _ _=>Option.some_ne_none k,?_⟩
     . have hq:oZ w.heap.size w' v' (xs ++ [y]):=oZ.Zq (by simpa using r1)
       rcases hq with h|⟨g',off',cap',cur',e,hB',r⟩
       . exact .inl h
       . exact .inr ⟨g',off',cap',cur',e,by omega,r⟩
     . exact .inr (Tn r1)
theorem Yi (B:Nat)(ty:TypeId)(w:World)(v:Value)(xs:List Int)(y:Int)(vb:Nat)(hq:oZ B w v xs)(hn:xs.length<=100000000)(hB:B<=vb)(hy:w.heap[vb]? = some (.cells #[.int .i64 y] 3 (0,0))) :
    ∃v' w',(Builtin.append_ #[50,50] ty #[.slice (some ⟨vb,0,none⟩) 1 1,v]).run Tryz.prog w=.ok v' w'/\oZ B w' v' (y :: xs)/\Below w.heap.size w w' /\
     (v'.ownBlock=some vb\/∃m,v'.ownBlock=some m/\w.heap.size<=m):=by
 obtain⟨i0,hi,hz0,hz1,hz2⟩:=info_parts agc
 have hvb:=(aF hy)
 by_cases h0:xs=[]
 . subst h0
   refine⟨.slice (some ⟨vb,0,none⟩) 1 1,w,?_,.inr ⟨vb,0,1,_,rfl,hB,hy,by simp,by unfold maxLen;omega,by simp,fun k hk=>?_⟩,Below.refl _ _,.inl rfl⟩
   . obtain⟨a,cap,rfl⟩:=hq.slice
     cases a <;> simp[Builtin.append_,run_underlying Tryz.underlying50,sizeOf,typeInfo,hi,Builtin.lenOf,Builtin.firstCells,loadCells,loadCellsFrom,storeCells]
   . obtain rfl:k=0:=by simp only[List.length_cons,List.length_nil] at hk;omega
     rfl
 . have hpos:0<xs.length:=List.length_pos_iff.2 h0
   rcases hq with ⟨-,rfl⟩|⟨g,off,cap,cur,rfl,hBg,hg,hle,hmx,hsz,hc⟩
   . exact absurd rfl h0
   . have hnews:∀(j:Nat) u,(xs.map (Value.int .i64))[j]? = some u->w.cell? ((⟨g,off,none⟩:Addr).add j)=some u:=by
      intro j u hj
      have hjl:j<xs.length:=by
       rcases Nat.lt_or_ge j xs.length with h|h
       . exact h
       . rw[List.getElem?_eq_none (by simpa using h)] at hj;cases hj
      rw[Js,cell_of_row w g (off+j) cur _ (0,0) hg,hc j hjl]
      rw[List.getElem?_map,List.getElem?_eq_getElem hjl] at hj
      simpa [hjl] using hj
     have holds:∀(j:Nat) u,[Value.int .i64 y][j]? = some u->w.cell? ((⟨vb,0,none⟩:Addr).add j)=some u:=by
      intro j u hj
      cases j with
      | zero=>simp only[List.getElem?_cons_zero,Option.some.injEq] at hj;subst hj;rw[Js,cell_of_row w vb _ _ _ (0,0) hy];rfl
      | succ j=>simp at hj
     obtain⟨v',w',hrun,r1,r2⟩:=run_append_arg_grows (P:=Tryz.prog) w 50 ty 3 i0 _ 1 8 Tryz.underlying50 hi hz0 hz1 hz2 rfl (by decide) ⟨vb,0,none⟩ 1 1 [.int .i64 y] rfl holds
      ⟨g,off,none⟩ xs.length cap (xs.map (Value.int .i64)) (by simp) hnews (by omega) (by unfold maxLen;omega) (by omega)
     have r1':w'.ownsRow w.heap.size 3 1 v' (y :: xs).length ((y :: xs).map (Value.int .i64)):=by
      rw[List.length_cons,Nat.add_comm];exact r1
     refine⟨v',w',hrun,?_,⟨r2.os,r2.tape,r2.output,r2.size,fun k hk=>r2.block k hk (Option.some_ne_none k)⟩,.inr (Tn r1')⟩
     rcases oZ.Zq r1' with h|⟨g',off',cap',cur',e,hB',r⟩
     . exact .inl h
     . exact .inr ⟨g',off',cap',cur',e,by omega,r⟩
theorem cO {ops:Array Oper}{rest:List Oper}{o:Oper}{a:Act}{Q:Exit->Act->World->Prop}(hgd:o.guard=none)(s x:Operand)(T:TypeId)
    (ho:o.op=.call { callee:=.builtin .append,args:=#[s,x],argTypes:=#[T,T] }) {w:World} {v u:Value} (hs:a.eval s=v) (hx:a.eval x=u)
    {v':Value} {w':World} (hrun:(Builtin.append_ #[T,T] o.type #[v,u]).run Tryz.prog w=.ok v' w') (h:wpList Tryz.prog ops Q rest (a.put o.dst v') w'):wpList Tryz.prog ops Q (o :: rest) a w:=by
 refine wpList_plain hgd fun K hK'=>?_
 unfold Oper.wp
 simp[execOp,ho,resolve,invoke,builtin,hs,hx,hrun,Result.andThen]
 exact hK' _ _ h
abbrev quO (v:Value):Obj:=.cells #[v] 259
theorem row_one {w:World}{n:Nat}{a:Value}{e:TypeId}(h:w.heap[n]? = some (.cells #[a] e (0,0))):w.cell? ⟨n,0,none⟩=some a/\w.frozen? ⟨n,0,none⟩=false:=by
 rw[cell_of_row w n 0 _ _ (0,0) h,frozen_of_row w n 0 _ _ h]
 exact⟨rfl,rfl⟩
structure YF (B qb:Nat)(w:World)(v:Value)(xs:List Int)(w':World)(v':Value):Prop where
 list:oZ B w' v' xs
 row:w'.heap[qb]? = some (quO v')
 kept:Kept (fun k=>k≠qb/\some k≠v.ownBlock) w w'
 own:v'.ownBlock=v.ownBlock\/v'.ownBlock=none\/∃m,v'.ownBlock=some m/\w.heap.size<=m
theorem own_ne {B qb:Nat}{w:World}{v:Value}{xs:List Int}(h:oZ B w v xs)(hlt:qb<B):some qb≠v.ownBlock:=fun e=>by have:=(h.lt _ e.symm).1;omega
theorem l_ (B qb:Nat)(v:Value)(xs:List Int)(y:Int)(w:World)(hq:oZ B w v xs)(hn:xs.length<=100000000)(hB:B<=w.heap.size)(hr:w.heap[qb]? = some (quO v))(hlt:qb<B) :
    Calls Tryz.prog 165 #[.pointer (some ⟨qb,0,none⟩),.int .i64 y] w fun e w'=>e=.returned (.tuple #[])/\∃v',YF B qb w v (xs ++ [y]) w' v':=by
 obtain⟨W,hW⟩:=aG (w.alloc (.cells #[.int .i64 y] 3))
 obtain⟨eW,bW,zW⟩:=boxedB hW
 obtain⟨v',w',hrun,h1,h2,h3⟩:=Gu B 50 W v xs y w.heap.size 1 (hq.mono bW) hn (by omega) (row_one eW).1
 obtain⟨c0,f0⟩:=row_one hr
 have hqn:=own_ne hq hlt
 have Xp:=ak bW hr
 have hrw:=(h2.block qb (by omega) hqn).trans Xp
 obtain⟨c1,f1⟩:=row_one hrw
 have hzw:=(aF hrw)
 have hzq:=(aF hr)
 obtain⟨a,cap,rfl⟩:=hq.slice
 have hfin:YF B qb w (.slice a xs.length cap) (xs ++ [y]) (w'.setCell ⟨qb,0,none⟩ v') v':=by
  refine⟨h1.kept (S:=fun k=>k≠qb) ((Kept.refl _ _).setCell (p:=⟨qb,0,none⟩) (.inl fun h=>h rfl) _) fun k e h=>?_,aX hrw 0 v',?_,?_⟩
  . subst h;have:=(h1.lt _ e).1;omega
  . exact((Kept.all bW).trans (h2.mono fun k _ h=>h.2)).setCell (p:=⟨qb,0,none⟩) (.inl fun h=>h.1 rfl) _
  . rcases h3 with h|⟨m,hm,hm2⟩
    . exact .inl h
    . exact .inr (.inr ⟨m,hm,by have:=bW.size;omega⟩)
 obtain⟨a',cap',rfl⟩:=h1.slice
 have hl:(xs ++ [y]).length=xs.length+1:=by simp
 rw[hl] at hfin hrun
 replace hfin:=ai hfin
 clear hl h1 h2 h3 eW bW hq Xp
 go_enter Tryz.func165,Tryz.ntmps165
 go_wp2_with (at_builtin;refine cO (by rfl) _ _ _ (by rfl) (by rfl) (by rfl) hrun ?_)
 go_end0
 exact⟨rfl,_,hfin.out⟩
theorem adD (B qb:Nat)(v:Value)(xs:List Int)(y:Int)(w:World)(hq:oZ B w v xs)(hn:xs.length<=100000000)(hB:B<=w.heap.size)(hr:w.heap[qb]? = some (quO v))(hlt:qb<B) :
    Calls Tryz.prog 170 #[.pointer (some ⟨qb,0,none⟩),.int .i64 y] w fun e w'=>e=.returned (.tuple #[])/\∃v',YF B qb w v (y :: xs) w' v':=by
 obtain⟨W,hW⟩:=aG (w.alloc (.cells #[.int .i64 y] 3))
 obtain⟨eW,bW,zW⟩:=boxedB hW
 obtain⟨v',w',hrun,h1,h2,h3⟩:=Yi B 50 W v xs y w.heap.size (hq.mono bW) hn hB eW
 have Xp:=ak bW hr
 have hrw:=ak h2 Xp
 obtain⟨cW,fW⟩:=row_one Xp
 obtain⟨c1,f1⟩:=row_one hrw
 have hzw:=(aF hrw)
 have hzq:=(aF hr)
 have hzW:=(aF Xp)
 obtain⟨a,cap,rfl⟩:=hq.slice
 have hfin:YF B qb w (.slice a xs.length cap) (y :: xs) (w'.setCell ⟨qb,0,none⟩ v') v':=by
  refine⟨h1.kept (S:=fun k=>k≠qb) ((Kept.refl _ _).setCell (p:=⟨qb,0,none⟩) (.inl fun h=>h rfl) _) fun k e h=>?_,aX hrw 0 v',?_,?_⟩
  . subst h;have:=(h1.lt _ e).1;omega
  . exact((Kept.all bW).trans (Kept.all h2)).setCell (p:=⟨qb,0,none⟩) (.inl fun h=>h.1 rfl) _
  . rcases h3 with h|⟨m,hm,hm2⟩
    . exact .inr (.inr ⟨_,h,Nat.le_refl _⟩)
    . exact .inr (.inr ⟨m,hm,by have:=bW.size;omega⟩)
 obtain⟨a',cap',rfl⟩:=h1.slice
 replace hfin:=ai hfin
 clear h1 h2 h3 eW bW hq Xp
 go_enter Tryz.func170,Tryz.ntmps170
 go_wp2_with (at_builtin;refine cO (by rfl) _ _ _ (by rfl) (by rfl) (by rfl) hrun ?_)
 go_end0
 exact⟨rfl,_,hfin.out⟩
theorem adN (B qb:Nat)(v:Value)(w:World)(hq:oZ B w v [])(hr:w.heap[qb]? = some (quO v)) :
    Calls Tryz.prog 166 #[.pointer (some ⟨qb,0,none⟩)] w fun e w'=>e=.returned (.tuple #[.int .i64 0,.bool false])/\w'=w:=by
 obtain⟨a,cap,rfl⟩:=hq.slice
 obtain⟨c0,f0⟩:=row_one hr
 have hzq:=(aF hr)
 clear hq hr
 simp only[List.length_nil] at c0
 go_enter Tryz.func166,Tryz.ntmps166
 go_wp2
 exact bodyPost_ret (v:=.tuple #[.int .i64 0,.bool false]) (by simp[results,Tryz.results166,go_sem]) rfl ⟨rfl,rfl⟩
theorem XT (B qb:Nat)(v:Value)(x:Int)(xs:List Int)(w:World)(hq:oZ B w v (x :: xs))(hr:w.heap[qb]? = some (quO v))(hlt:qb<B)(hB:B<=w.heap.size) :
    Calls Tryz.prog 166 #[.pointer (some ⟨qb,0,none⟩)] w fun e w'=>e=.returned (.tuple #[.int .i64 x,.bool true])/\∃v',YF B qb w v xs w' v':=by
 have hq0:=hq
 rcases hq0 with ⟨-,h⟩|⟨g,off,cap,cur,rfl,hBg,hg,-⟩
 . cases h
 obtain⟨c0,f0⟩:=row_one hr
 have hzq:=(aF hr)
 have hzg:=(aF hg)
 have hx:=hq.cell (k:=0) (by simp)
 simp only[Nat.add_zero,List.getD_cons_zero] at hx
 obtain⟨h1,h2,h3,h4⟩:=hq.cap
 simp only[List.length_cons] at c0 hx h2 h3 hq hr
 have hk:Kept (fun k=>k≠qb/\some k≠(Value.slice (some ⟨g,off,none⟩) (xs.length+1) cap).ownBlock) w w:=Kept.refl _ _
 have hlen:((xs.length+1:Nat):Int)=(xs.length:Int)+1:=by omega
 by_cases hc:cap=1
 . subst hc
   obtain⟨hx0,hqt⟩:=hq.aqN
   subst hx0
   have hfin:YF B qb w (.slice (some ⟨g,off,none⟩) 1 1) [] (w.setCell ⟨qb,0,none⟩ (.slice (some ⟨g,off,none⟩) 0 0)) (.slice (some ⟨g,off,none⟩) 0 0) :=
    ⟨hqt.kept (S:=fun k=>k≠qb) ((Kept.refl _ _).setCell (p:=⟨qb,0,none⟩) (.inl fun h=>h rfl) _) (fun k e h=>by subst h;have:=(hqt.lt _ e).1;omega),aX hr 0 _,hk.setCell (p:=⟨qb,0,none⟩) (.inl fun h=>h.1 rfl) _,.inl rfl⟩
   replace hfin:=ai hfin
   clear hq hqt hr hk
   go_enter Tryz.func166,Tryz.ntmps166
   go_wp2
   exact bodyPost_ret (v:=.tuple #[.int .i64 x,.bool true]) (by simp[results,Tryz.results166,go_sem]) rfl ⟨rfl,_,hfin.out⟩
 . have hqt:=hq.tail (by omega)
   have hfin:YF B qb w (.slice (some ⟨g,off,none⟩) (xs.length+1) cap) xs (w.setCell ⟨qb,0,none⟩ (.slice (some ⟨g,off+1,none⟩) xs.length (cap - 1))) (.slice (some ⟨g,off+1,none⟩) xs.length (cap - 1)) :=
    ⟨hqt.kept (S:=fun k=>k≠qb) ((Kept.refl _ _).setCell (p:=⟨qb,0,none⟩) (.inl fun h=>h rfl) _) (fun k e h=>by subst h;have:=(hqt.lt _ e).1;omega),aX hr 0 _,hk.setCell (p:=⟨qb,0,none⟩) (.inl fun h=>h.1 rfl) _,.inl rfl⟩
   replace hfin:=ai hfin
   clear hq hqt hr hk
   go_enter Tryz.func166,Tryz.ntmps166
   go_wp2
   exact bodyPost_ret (v:=.tuple #[.int .i64 x,.bool true]) (by simp[results,Tryz.results166,go_sem]) rfl ⟨rfl,_,hfin.out⟩
end Go.Proofs.YtkjdidieiioijaaGreat.B
namespace Wl
def FQ (p:Pa)(room:Int):Int:=if room=p.one then p.other else if room=p.other then p.one else -1
def yO (l:List Pa)(room:Int)(n:Nat):List (Nat × Int):=(List.range n).filterMap fun i=>if 0<=FQ (cu l i) room then some (i,FQ (cu l i) room) else none
def atL (l:List Pa)(room:Int):List (Nat × Int):=yO l room l.length
theorem GR {l:List Pa}{room:Int}{n:Nat}(h:0<=FQ (cu l n) room):yO l room (n+1)=yO l room n ++ [(n,FQ (cu l n) room)]:=by
 unfold yO
 rw[List.range_succ,List.filterMap_append]
 simp[h]
theorem V8 {l:List Pa}{room:Int}{n:Nat}(h:¬ 0<=FQ (cu l n) room):yO l room (n+1)=yO l room n:=by
 unfold yO
 rw[List.range_succ,List.filterMap_append]
 simp[h]
theorem JV {l:List Pa}{room:Int}{i j:Nat}(h:i<=j):yO l room i <+: yO l room j:=by
 induction j with
 | zero=>obtain rfl:i=0:=by omega
         exact List.prefix_refl _
 | succ j ih =>
  by_cases hi:i=j+1
  . subst hi;exact List.prefix_refl _
  . by_cases h0:0<=FQ (cu l j) room
    . rw[GR h0];exact(ih (by omega)).trans (List.prefix_append _ _)
    . rw[V8 h0];exact ih (by omega)
theorem Ur {l:List Pa}{room:Int}{x:Nat × Int}(h:x ∈ atL l room):x.1<l.length/\x.2=FQ (cu l x.1) room/\0<=x.2:=by
 unfold atL yO at h
 obtain⟨i,hi,h⟩:=List.mem_filterMap.1 h
 split at h
 . cases h;exact⟨List.mem_range.1 hi,rfl,by assumption⟩
 . cases h
theorem VG {w:We}(h:w.Ok){k:Nat}(hk:k<w.parts.length)(room:Int) : -1<=FQ (cu w.parts k) room/\FQ (cu w.parts k) room<w.aS:=by
 have:=h.ends k hk
 have:=h.aS
 unfold FQ
 split
 . omega
 . split <;> omega
end Wl
namespace Go.Proofs.YtkjdidieiioijaaGreat.B
open Go.RowKit Go.Sd Wl L
attribute [local go_sem] Oper.semAt_some
structure FB (w:World)(lb:Nat)(pv:Value)(we:We)(day:Int):Prop where
 row:w.heap[lb]? = some (.cells #[.int .i64 we.aS,.int .i64 we.need,pv,.int .i64 day] 233 (0,0))
 parts:mY w pv we.parts
theorem afd {α:Type}{m:Nat}{enc:α->List Value}{d:α}{S:Nat->Prop}{w w':World}{v:Value}{xs:List α}(h:gG m enc d w v xs)(hk:Kept S w w')(hs:∀k,v.ownBlock=some k->S k):gG m enc d w' v xs:=by
 obtain⟨a,cap,rfl,hm,hc⟩:=h
 refine⟨a,cap,rfl,hm,fun h0=>?_⟩
 obtain⟨b,off,rfl,hlt,hx⟩:=hc h0
 exact⟨b,off,rfl,bM hlt hk.size,fun k i u hk' hu=>hk.cell (hs b rfl) (hx k i u hk' hu)⟩
theorem FB.kept {S:Nat->Prop}{w w':World}{lb:Nat}{pv:Value}{we:We}{day:Int}(h:FB w lb pv we day)(hk:Kept S w w')(h1:S lb)(h2:∀k,pv.ownBlock=some k->S k):FB w' lb pv we day :=
 ⟨(hk.block _ (aF h.row) h1).trans h.row,afd h.parts hk h2⟩
theorem FB.mono {w w':World}{lb:Nat}{pv:Value}{we:We}{day:Int}(h:FB w lb pv we day)(hb:Below w.heap.size w w'):FB w' lb pv we day:=⟨ak hb h.row,h.parts.mono hb⟩
theorem row4 {w:World}{n:Nat}{a0 a1 a2 a3:Value}{e:TypeId}(h:w.heap[n]? = some (.cells #[a0,a1,a2,a3] e (0,0))):w.cell? ⟨n,0,none⟩=some a0/\w.cell? ⟨n,1,none⟩=some a1/\w.cell? ⟨n,2,none⟩=some a2/\w.cell? ⟨n,3,none⟩=some a3:=by
 have r:=(ah h).2.1
 exact⟨r 0,r 1,r 2,r 3⟩
theorem XK {w:World}{v:Value}{xs:List Pa}(h:mY w v xs){k:Nat}(hk:k<xs.length) :
    ∃b off cap,v=.slice (some ⟨b,off,none⟩) xs.length cap/\b<w.heap.size/\xs.length<=9223372036854775807 /\
     w.cell? ⟨b,off+k*9,none⟩=some (.int .i64 (cu xs k).one)/\w.cell? ⟨b,off+k*9+1,none⟩=some (.int .i64 (cu xs k).other)/\w.cell? ⟨b,off+k*9+2,none⟩=some (.bool (cu xs k).Ac) /\
     w.cell? ⟨b,off+k*9+3,none⟩=some (.bool (cu xs k).opn)/\w.cell? ⟨b,off+k*9+4,none⟩=some (.int .i64 (cu xs k).tested)/\w.cell? ⟨b,off+k*9+5,none⟩=some (.int .i64 (cu xs k).valid) /\
     w.cell? ⟨b,off+k*9+6,none⟩=some (.bool (cu xs k).bad)/\w.cell? ⟨b,off+k*9+7,none⟩=some (.int .i64 (cu xs k).test)/\w.cell? ⟨b,off+k*9+8,none⟩=some (.int .i64 (cu xs k).change):=by
 obtain⟨a,cap,rfl,hm,hc⟩:=h.form
 obtain⟨b,off,rfl,hlt,hx⟩:=hc (by omega)
 exact⟨b,off,cap,rfl,hlt,hm,hx k 0 _ hk rfl,hx k 1 _ hk rfl,hx k 2 _ hk rfl,hx k 3 _ hk rfl,hx k 4 _ hk rfl,hx k 5 _ hk rfl,hx k 6 _ hk rfl,hx k 7 _ hk rfl,hx k 8 _ hk rfl⟩
theorem adO (c:Int)(o:Bool)(w:World):Calls Tryz.prog 168 #[.agg #[.int .i64 c,.bool o]] w (dI (.bool (decide (c=0) && !o)) w):=by
 by_cases h:c=0
 . subst h
   go_enter Tryz.func168,Tryz.ntmps168
   go_wp2
   go_ret
   exact⟨by simp,(Below.refl _ _).alloc (Nat.le_refl _) _⟩
 . go_enter Tryz.func168,Tryz.ntmps168
   go_wp2
   go_ret
   exact⟨by simp[h],(Below.refl _ _).alloc (Nat.le_refl _) _⟩
theorem ajX (t:Bool)(w:World):Calls Tryz.prog 169 #[.bool t] w fun e w'=>e=.returned (.int .i64 (if t=true then 1 else 0))/\w'=w:=by
 cases t
 . go_enter Tryz.func169,Tryz.ntmps169
   go_wp2
   go_ret
   exact⟨rfl,rfl⟩
 . go_enter Tryz.func169,Tryz.ntmps169
   go_wp2
   go_ret
   exact⟨rfl,rfl⟩
theorem anD (lb:Nat)(room:Int)(w:World):Calls Tryz.prog 167 #[.pointer (some ⟨lb,0,none⟩),.int .i64 room] w fun e w' =>
    e=.returned (.func (.func 189) #[] #[.pointer (some ⟨w.heap.size,0,none⟩),.pointer (some ⟨w.heap.size+1,0,none⟩)]) /\
     w'=(w.alloc (.cells #[.pointer (some ⟨lb,0,none⟩)] 149)).alloc (.cells #[.int .i64 room] 3):=by
 go_enter Tryz.func167,Tryz.ntmps167
 go_wp2
 go_ret
 exact⟨by simp,rfl⟩
theorem acR (we:We)(ok:we.Ok)(day room:Int)(w:World)(S:Nat->Prop)(lb p1 p2:Nat)(pv:Value)(hl:FB w lb pv we day)(h1:w.heap[p1]? = some (.cells #[.pointer (some ⟨lb,0,none⟩)] 149 (0,0)))(h2:w.heap[p2]? = some (.cells #[.int .i64 room] 3 (0,0)))
    (hS1:S p1) (hS2:S p2) (hSl:S lb) (hSp:∀k,pv.ownBlock=some k->S k) :
    aai Tryz.prog 189 #[.pointer (some ⟨p1,0,none⟩),.pointer (some ⟨p2,0,none⟩)] (fun x:Nat × Int=>#[.int .i64 x.1,.int .i64 x.2]) (atL we.parts room) S w:=by
 intro l J Jx Jp W hKW hJ hJx hY h0
 have hp0:=hl.parts
 obtain⟨pa,Aj,rfl,hpm,-⟩:=hp0
 unfold maxLen at hpm
 have hlW:=hl.kept hKW hSl hSp
 obtain⟨c0,c1,c2,c3⟩:=row4 hlW.row
 have zl:=(aF hlW.row)
 have r1:=(hKW.block _ (aF h1) hS1).trans h1
 have r2:=(hKW.block _ (aF h2) hS2).trans h2
 obtain⟨d1,-⟩:=row_one r1
 have z1:=(aF r1)
 clear r1 r2
 refine callsIn_wide.2 ?_
 go_enter Tryz.func189,Tryz.ntmps189
 go_wp2
 refine(wpIn_wide (n:=0)).1 ?_
 gi_loopw [13] (fun i wr=>∃k:Nat,k<=we.parts.length/\i=.int .i64 k/\Hid (Kept S w wr/\J (yO we.parts room k) wr)) (fun i _=>(we.parts.length - intOf i).toNat)
 case atStart=>exact⟨0,by omega,by go_num,hKW,h0⟩
 case round =>
  obtain⟨k,hk,rfl,hH⟩:=hrel
  by_cases hlt:k<we.parts.length
  . have hki:(k:Int)<(we.parts.length:Int):=by omega
    have hlr:=hl.kept hH.out.1 hSl hSp
    obtain⟨b,off,cap,he,hb,-,x0,x1,x2,x3,x4,x5,x6,x7,x8⟩:=XK hlr.parts hlt
    simp only[Value.slice.injEq] at he
    obtain⟨rfl,-,rfl⟩:=he
    have r2:=(hH.out.1.block _ (aF h2) hS2).trans h2
    obtain⟨e1,e2,e3,e4,e5,-⟩:=ok.ends k hlt
    obtain⟨X,hX⟩:=aG (wr.alloc (paO (cu we.parts k)))
    obtain⟨eX,bX,zX⟩:=boxedB hX
    obtain⟨y0,y1,y2,y3,y4,y5,y6,y7,y8⟩:=ZR eX
    obtain⟨d2,-⟩:=row_one (ak bX r2)
    have z2:=(Array.getElem?_eq_some_iff.1 (ak bX r2)).1
    have hJX:=ai (hJ _ _ _ hH.out.2 bX)
    have hKX:=ai (hH.out.1.trans (.all bX))
    have hK1:=ai hH.out.1
    clear hH hlr r2 eX bX c0 c1 c2 c3 d1
    by_cases ho:room=(cu we.parts k).one
    . have hob:(room == (cu we.parts k).one)=true:=by simpa using ho
      have hto:FQ (cu we.parts k) room=(cu we.parts k).other:=by unfold FQ;rw[if_pos ho]
      have hpre:yO we.parts room k ++ [(k,(cu we.parts k).other)] <+: atL we.parts room:=by
       have h3:=GR (l:=we.parts) (room:=room) (n:=k) (by rw[hto];omega)
       rw[hto] at h3
       rw[<- h3];exact JV (by omega)
      have hnext:Hid (yO we.parts room (k+1)=yO we.parts room k ++ [(k,(cu we.parts k).other)]):=by
       have h3:=GR (l:=we.parts) (room:=room) (n:=k) (by rw[hto];omega)
       rw[hto] at h3
       exact h3
      obtain⟨fn,tmps,assign,body,hy0,hR⟩:=hY _ _ X hpre hKX.out hJX.out
      have hy:(Instr.yield l #[.int .i64 k,.int .i64 ((cu we.parts k).other)]).run Tryz.prog X=.ok (.round l fn tmps assign body) X:=hy0
      clear hy0 hto hpre
      gi_wp2
      refine⟨rfl,hR.mono ?_⟩
      clear hy hR
      rintro e W3 (⟨rfl,hJ4,hk4⟩|⟨rfl,Y_⟩|⟨c,rfl,hJp⟩)
      . have hK4:Kept S w W3:=hKX.out.trans hk4
        gi_wp2
        exact⟨⟨k+1,by omega,by go_num,hK4,by rw[hnext.out];exact hJ4⟩,by simp[intOf];omega⟩
      . gi_wp2
        exact bodyPost_ret (results_none rfl _ _ _) rfl (.inl ⟨⟨_,rfl⟩,.inr Y_⟩)
      . exact⟨rfl,.inr ⟨c,rfl,hJp⟩⟩
    . have hob:(room == (cu we.parts k).one)=false:=by simpa using ho
      by_cases ho2:room=(cu we.parts k).other
      . have as8:(room == (cu we.parts k).other)=true:=by simpa using ho2
        have hto:FQ (cu we.parts k) room=(cu we.parts k).one:=by unfold FQ;rw[if_neg ho,if_pos ho2]
        have hpre:yO we.parts room k ++ [(k,(cu we.parts k).one)] <+: atL we.parts room:=by
         have h3:=GR (l:=we.parts) (room:=room) (n:=k) (by rw[hto];omega)
         rw[hto] at h3
         rw[<- h3];exact JV (by omega)
        have hnext:Hid (yO we.parts room (k+1)=yO we.parts room k ++ [(k,(cu we.parts k).one)]):=by
         have h3:=GR (l:=we.parts) (room:=room) (n:=k) (by rw[hto];omega)
         rw[hto] at h3
         exact h3
        obtain⟨fn,tmps,assign,body,hy0,hR⟩:=hY _ _ X hpre hKX.out hJX.out
        have hy:(Instr.yield l #[.int .i64 k,.int .i64 ((cu we.parts k).one)]).run Tryz.prog X=.ok (.round l fn tmps assign body) X:=hy0
        clear hy0 hto hpre
        gi_wp2
        refine⟨rfl,hR.mono ?_⟩
        clear hy hR
        rintro e W3 (⟨rfl,hJ4,hk4⟩|⟨rfl,Y_⟩|⟨c,rfl,hJp⟩)
        . have hK4:Kept S w W3:=hKX.out.trans hk4
          gi_wp2
          exact⟨⟨k+1,by omega,by go_num,hK4,by rw[hnext.out];exact hJ4⟩,by simp[intOf];omega⟩
        . gi_wp2
          exact bodyPost_ret (results_none rfl _ _ _) rfl (.inl ⟨⟨_,rfl⟩,.inr Y_⟩)
        . exact⟨rfl,.inr ⟨c,rfl,hJp⟩⟩
      . have as8:(room == (cu we.parts k).other)=false:=by simpa using ho2
        have hto:FQ (cu we.parts k) room = -1:=by unfold FQ;rw[if_neg ho,if_neg ho2]
        have hnext:Hid (yO we.parts room (k+1)=yO we.parts room k):=V8 (by rw[hto];omega)
        clear hto
        gi_wp2
        refine⟨fun f h=>(by cases h),?_⟩
        gi_wp2
        exact⟨⟨k+1,by omega,by go_num,hKX.out,by rw[hnext.out];exact hJX.out⟩,by simp[intOf];omega⟩
  . obtain rfl:k=we.parts.length:=by omega
    gi_wp2
    go_end0
    exact .inl ⟨⟨_,rfl⟩,.inl hH.out.2⟩
