/- Walks. -/
import Derived.Test.YtkjdidieiioijaaGreatK00
import Derived.WalkKit
set_option linter.all false
set_option maxRecDepth 100000
set_option maxHeartbeats 16000000
namespace Sea
structure Row where
 fill:Int
 iq:Int
 out:Int
structure Day where
 buy:Int
 sell:Int
 offer:Int
 take:Int
 dB:Int
 dK:Int
 nlo:Int
 nhi:Int
structure S where
 space:Int
 start:Int
 UE:Int
 UC:Int
 rows:List Row
 days:List Day
def rowAt (l:List Row)(k:Nat):Row:=l.getD k ⟨0,0,0⟩
def aP (l:List Day)(k:Nat):Day:=l.getD k ⟨0,0,0,0,0,0,0,0⟩
def at0 (l:List Int)(k:Nat):Int:=l.getD k 0
def never:Int:=1000000000000000
def inB (x low high:Int):Bool:=decide (low<=x) && decide (x<=high)
def g_ (lo hi low high:Int):Bool:=decide (low<=lo) && decide (lo<=hi) && decide (hi<=high)
def rowB (rows:List Row)(i:Nat):Bool :=
 inB (rowAt rows i).fill 0 100 && inB (rowAt rows i).iq 0 100 && inB (rowAt rows i).out 0 100 &&
  !(decide (i=0) && decide ((rowAt rows i).fill≠0)) && !(decide (0<i) && decide ((rowAt rows i).fill<=(rowAt rows (i - 1)).fill))
def MB (rows:List Row):Bool:=(List.range rows.length).all (rowB rows)
def PY (space:Int)(d:Day):Bool :=
 inB d.buy 0 1000000 && inB d.sell 0 1000000 && inB d.offer 0 100 && inB d.take 0 100 && g_ d.dB d.dK 0 space && g_ d.nlo d.nhi (-100) 100
def aao (s:S):Bool:=(List.range s.days.length).all fun i=>PY s.space (aP s.days i)
def headB (s:S):Bool :=
 inB s.space 1 100 && inB s.start 0 s.space && g_ s.UE s.UC 0 s.space && inB s.rows.length 1 8 && inB s.days.length 1 20
def iU (s:S):Bool:=headB s && MB s.rows && aao s
structure Ok (s:S):Prop where
 space:1<=s.space/\s.space<=100
 start:0<=s.start/\s.start<=s.space
 fin:0<=s.UE/\s.UE<=s.UC/\s.UC<=s.space
 alm:1<=s.rows.length/\s.rows.length<=8
 ab9:1<=s.days.length/\s.days.length<=20
 row0:(rowAt s.rows 0).fill=0
 rows:∀k,k<s.rows.length->0<=(rowAt s.rows k).fill/\(rowAt s.rows k).fill<=100/\0<=(rowAt s.rows k).iq/\(rowAt s.rows k).iq<=100/\0<=(rowAt s.rows k).out/\(rowAt s.rows k).out<=100
 days:∀k,k<s.days.length->0<=(aP s.days k).buy/\(aP s.days k).buy<=1000000/\0<=(aP s.days k).sell/\(aP s.days k).sell<=1000000 /\
  0<=(aP s.days k).offer/\(aP s.days k).offer<=100/\0<=(aP s.days k).take/\(aP s.days k).take<=100 /\
  0<=(aP s.days k).dB/\(aP s.days k).dB<=(aP s.days k).dK/\(aP s.days k).dK<=s.space /\
  -100<=(aP s.days k).nlo/\(aP s.days k).nlo<=(aP s.days k).nhi/\(aP s.days k).nhi<=100
theorem eP {x l h:Int} : inB x l h=true↔l<=x/\x<=h:=by simp[inB]
theorem mM {a b l h:Int} : g_ a b l h=true↔l<=a/\a<=b/\b<=h:=by simp[g_,and_assoc]
theorem XD {s:S}(h:iU s=true):Ok s:=by
 simp only[iU,headB,MB,aao,Bool.and_eq_true,eP,mM,List.all_eq_true,List.mem_range] at h
 obtain⟨⟨⟨⟨⟨⟨h1,h2⟩,h3⟩,h4⟩,h5⟩,hr⟩,hd⟩:=h
 refine⟨h1,h2,h3,by omega,by omega,?_,fun k hk=>?_,fun k hk=>?_⟩
 . have:=hr 0 (by omega)
   simp only[rowB,Bool.and_eq_true,eP] at this
   have h6:=this.1.2
   simp at h6
   exact h6
 . have:=hr k hk
   simp only[rowB,Bool.and_eq_true,eP] at this
   omega
 . have:=hd k hk
   simp only[PY,Bool.and_eq_true,eP,mM] at this
   omega
def Hg (rows:List Row)(fill:Int):Nat->Row
 | 0=>rowAt rows 0
 | k+1=>if (rowAt rows k).fill<=fill then rowAt rows k else Hg rows fill k
def S.lim (s:S)(fill:Int):Row:=Hg s.rows fill s.rows.length
def S.rule (s:S)(day:Nat)(fill aY x:Int):Int :=
 if (aP s.days day).offer<x then 2
 else if (aP s.days day).take < -x then 3
 else if (s.lim fill).iq<aY+x then 4
 else if (s.lim fill).out < -aY - x then 5
 else if inB (fill+aY+x) (aP s.days day).dB (aP s.days day).dK=false then 6
 else if (day:Int)=(s.days.length:Int) - 1/\inB (fill+aY+x) s.UE s.UC=false then 7
 else 1
def S.cost (s:S)(day:Nat)(x:Int):Int:=if x<0 then x*(aP s.days day).sell else x*(aP s.days day).buy
def uG (s:S)(day:Nat)(fill aY:Int)(next:List Int):Nat->Int × Int
 | 0=>(never,0)
 | k+1 =>
  let b:=uG s day fill aY next k
  let x:=(k:Int) - (aP s.days day).take
  if s.rule day fill aY x=1/\at0 next (fill+aY+x).toNat<never/\s.cost day x+at0 next (fill+aY+x).toNat<b.1
  then(s.cost day x+at0 next (fill+aY+x).toNat,x) else b
def S.least (s:S)(day:Nat)(fill aY:Int)(next:List Int):Int × Int :=
 uG s day fill aY next ((aP s.days day).take+(aP s.days day).offer+1).toNat
def fO (l:List (List Int))(k:Nat):List Int:=l.getD k []
def before:List Int->List Int->Bool
 | a :: ar,b :: br=>if a=b then before ar br else decide (a<b)
 | _,_=>false
def S.Gl (s:S)(f:Int):Int:=if inB f s.UE s.UC then 0 else never
def S.last (s:S):List Int:=(List.range (s.space+1).toNat).map fun(f:Nat)=>s.Gl (f:Int)
def S.tH (s:S)(l:List Int):Bool:=decide (l.length=s.days.length) && (List.range l.length).all fun t=>inB (at0 l t) (aP s.days t).nlo (aP s.days t).nhi
def yh (n:Nat)(v:Nat->List Int)(j m:Nat):List (List Int) :=
 (List.range (n+1)).map fun t=>if n<t+j then v (n - t) else if t+j=n then(v j).take m else []
theorem mr (n:Nat)(v:Nat->List Int)(j m:Nat):(yh n v j m).length=n+1:=by simp[yh]
theorem yj (n:Nat)(v:Nat->List Int)(j m t:Nat)(h:t<=n):fO (yh n v j m) t=if n<t+j then v (n - t) else if t+j=n then(v j).take m else []:=by
 unfold fO yh
 simp[show t<n+1 by omega]
theorem JF {a b:List (List Int)}(hl:a.length=b.length)(h:∀t,t<a.length->fO a t=fO b t):a=b:=by
 apply List.ext_getElem hl
 intro i h1 h2
 have:=h i h1
 unfold fO at this
 simpa [h1,h2] using this
theorem ad8 (n:Nat)(v:Nat->List Int):yh n v 0 0=List.replicate (n+1) []:=by
 apply JF (by simp[yh])
 intro t ht
 rw[mr] at ht
 rw[yj n v 0 0 t (by omega),if_neg (by omega)]
 have:fO (List.replicate (n+1) ([]:List Int)) t=[]:=by unfold fO;simp[ht]
 rw[this];split <;> simp
theorem Rh (n:Nat)(v:Nat->List Int)(j m:Nat)(y:Int)(hj:j<=n)(hm:(v j)[m]? = some y) :
    (yh n v j m).set (n - j) (fO (yh n v j m) (n - j) ++ [y])=yh n v j (m+1):=by
 apply JF (by simp[yh])
 intro t ht
 rw[List.length_set,mr] at ht
 have hs:fO ((yh n v j m).set (n - j) (fO (yh n v j m) (n - j) ++ [y])) t=if t=n - j then fO (yh n v j m) (n - j) ++ [y] else fO (yh n v j m) t:=by
  unfold fO
  by_cases h:t=n - j
  . subst h;simp[mr,show n - j<n+1 by omega]
  . simp[h,List.getElem?_set,Ne.symm h]
 rw[hs,yj n v j (m+1) t (by omega)]
 by_cases h:t=n - j
 . rw[if_pos h,yj n v j m (n - j) (by omega),if_neg (by omega),if_pos (by omega),if_neg (by omega),if_pos (by omega),List.take_add_one,hm]
   rfl
 . rw[if_neg h,yj n v j m t (by omega)]
   by_cases h1:n<t+j
   . rw[if_pos h1,if_pos h1]
   . rw[if_neg h1,if_neg h1,if_neg (by omega),if_neg (by omega)]
theorem Ym (n:Nat)(v:Nat->List Int)(j m:Nat)(hj:j<=n)(hm:(v j).length<=m):yh n v j m=yh n v (j+1) 0:=by
 apply JF (by simp[yh])
 intro t ht
 rw[mr] at ht
 rw[yj n v j m t (by omega),yj n v (j+1) 0 t (by omega)]
 by_cases h1:n<t+j
 . rw[if_pos h1,if_pos (by omega)]
 . rw[if_neg h1]
   by_cases h2:t+j=n
   . rw[if_pos h2,if_pos (by omega),List.take_of_length_le hm,show n - t=j by omega]
   . rw[if_neg h2,if_neg (by omega)];split <;> simp
def whole (n:Nat)(v:Nat->List Int):List (List Int):=(List.range (n+1)).map fun t=>v (n - t)
theorem T_ (n:Nat)(v:Nat->List Int):yh n v (n+1) 0=whole n v:=by
 unfold yh whole
 apply List.map_congr_left
 intro t ht
 rw[if_pos (by omega)]
def S.vals (s:S)(aN:List Int):Nat->List Int
 | 0=>s.last
 | j+1=>(List.range (s.space+1).toNat).map fun(f:Nat)=>(s.least (s.days.length - 1 - j) f (at0 aN (s.days.length - 1 - j)) (S.vals s aN j)).1
def S.proof (s:S)(aN:List Int):List (List Int):=whole s.days.length (s.vals aN)
theorem S.vals_length (s:S)(aN:List Int)(j:Nat):(s.vals aN j).length=(s.space+1).toNat:=by cases j <;> simp[S.vals,S.last]
end Sea
namespace Go.Proofs.YtkjdidieiioijaaGreat.S
open Go.RowKit
def bK (w:World)(v:Value)(xs:List Int):Prop :=
 ∃a cap,v=.slice a xs.length cap/\xs.length<=maxLen /\
  (0<xs.length->∃b off,a=some ⟨b,off,none⟩/\b<w.heap.size/\∀k,k<xs.length->w.cell? ⟨b,off+k,none⟩=some (.int .i64 (Sea.at0 xs k)))
def yt (w:World)(b o:Nat)(r:Sea.Row):Prop :=
 w.cell? ⟨b,o,none⟩=some (.int .i64 r.fill)/\w.cell? ⟨b,o+1,none⟩=some (.int .i64 r.iq)/\w.cell? ⟨b,o+2,none⟩=some (.int .i64 r.out)
def sG (w:World)(b o:Nat)(d:Sea.Day):Prop :=
 w.cell? ⟨b,o,none⟩=some (.int .i64 d.buy)/\w.cell? ⟨b,o+1,none⟩=some (.int .i64 d.sell)/\w.cell? ⟨b,o+2,none⟩=some (.int .i64 d.offer) /\
 w.cell? ⟨b,o+3,none⟩=some (.int .i64 d.take)/\w.cell? ⟨b,o+4,none⟩=some (.int .i64 d.dB)/\w.cell? ⟨b,o+5,none⟩=some (.int .i64 d.dK) /\
 w.cell? ⟨b,o+6,none⟩=some (.int .i64 d.nlo)/\w.cell? ⟨b,o+7,none⟩=some (.int .i64 d.nhi)
def yN (w:World)(v:Value)(xs:List Sea.Row):Prop :=
 ∃a cap,v=.slice a xs.length cap/\xs.length<=maxLen /\
  (0<xs.length->∃b off,a=some ⟨b,off,none⟩/\b<w.heap.size/\∀k,k<xs.length->yt w b (off+k*3) (Sea.rowAt xs k))
def qB (w:World)(v:Value)(xs:List Sea.Day):Prop :=
 ∃a cap,v=.slice a xs.length cap/\xs.length<=maxLen /\
  (0<xs.length->∃b off,a=some ⟨b,off,none⟩/\b<w.heap.size/\∀k,k<xs.length->sG w b (off+k*8) (Sea.aP xs k))
def mZ (w:World)(v:Value)(s:Sea.S):Prop :=
 ∃rv dv,v=.agg #[.int .i64 s.space,.int .i64 s.start,.int .i64 s.UE,.int .i64 s.UC,rv,dv]/\yN w rv s.rows/\qB w dv s.days
abbrev aol (r:Sea.Row):Value:=.agg #[.int .i64 r.fill,.int .i64 r.iq,.int .i64 r.out]
abbrev Ny (s:Sea.S)(rv dv:Value):Obj:=.cells #[.int .i64 s.space,.int .i64 s.start,.int .i64 s.UE,.int .i64 s.UC,rv,dv] 86
theorem PW {w W:World}{s:Sea.S}{rv dv:Value}(h:w.alloc (Ny s rv dv)=W) :
    w.heap.size<W.heap.size/\Below w.heap.size w W /\
    W.cell? ⟨w.heap.size,0,none⟩=some (.int .i64 s.space)/\W.cell? ⟨w.heap.size,1,none⟩=some (.int .i64 s.start) /\
    W.cell? ⟨w.heap.size,2,none⟩=some (.int .i64 s.UE)/\W.cell? ⟨w.heap.size,3,none⟩=some (.int .i64 s.UC) /\
    W.cell? ⟨w.heap.size,4,none⟩=some rv/\W.cell? ⟨w.heap.size,5,none⟩=some dv:=by
 subst h
 refine⟨by simp,(Below.refl _ _).alloc (Nat.le_refl _) _,?_,?_,?_,?_,?_,?_⟩ <;> simp[Ny]
/-! What stays -/
theorem ae {w w':World}(hb:Below w.heap.size w w'){b o:Nat}{v:Value}(h:w.cell? ⟨b,o,none⟩=some v):w'.cell? ⟨b,o,none⟩=some v :=
 (hb.cell (p:=⟨b,o,none⟩) (World.block_lt_of_cell? w ⟨b,o,none⟩ h)).trans h
theorem yt.mono {w w':World}{b o:Nat}{r:Sea.Row}(h:yt w b o r)(hb:Below w.heap.size w w'):yt w' b o r :=
 ⟨ae hb h.1,ae hb h.2.1,ae hb h.2.2⟩
theorem sG.mono {w w':World}{b o:Nat}{r:Sea.Day}(h:sG w b o r)(hb:Below w.heap.size w w'):sG w' b o r :=
 ⟨ae hb h.1,ae hb h.2.1,ae hb h.2.2.1,ae hb h.2.2.2.1,ae hb h.2.2.2.2.1,ae hb h.2.2.2.2.2.1,ae hb h.2.2.2.2.2.2.1,ae hb h.2.2.2.2.2.2.2⟩
theorem bK.mono {w w':World}{v:Value}{xs:List Int}(h:bK w v xs)(hb:Below w.heap.size w w'):bK w' v xs:=by
 obtain⟨a,cap,rfl,hm,hc⟩:=h
 refine⟨a,cap,rfl,hm,fun h0=>?_⟩
 obtain⟨b,off,rfl,hlt,hk⟩:=hc h0
 exact⟨b,off,rfl,bM hlt hb.size,fun k hk'=>ae hb (hk k hk')⟩
theorem yN.mono {w w':World}{v:Value}{xs:List Sea.Row}(h:yN w v xs)(hb:Below w.heap.size w w'):yN w' v xs:=by
 obtain⟨a,cap,rfl,hm,hc⟩:=h
 refine⟨a,cap,rfl,hm,fun h0=>?_⟩
 obtain⟨b,off,rfl,hlt,hk⟩:=hc h0
 exact⟨b,off,rfl,bM hlt hb.size,fun k hk'=>(hk k hk').mono hb⟩
theorem qB.mono {w w':World}{v:Value}{xs:List Sea.Day}(h:qB w v xs)(hb:Below w.heap.size w w'):qB w' v xs:=by
 obtain⟨a,cap,rfl,hm,hc⟩:=h
 refine⟨a,cap,rfl,hm,fun h0=>?_⟩
 obtain⟨b,off,rfl,hlt,hk⟩:=hc h0
 exact⟨b,off,rfl,bM hlt hb.size,fun k hk'=>(hk k hk').mono hb⟩
theorem mZ.mono {w w':World}{v:Value}{s:Sea.S}(h:mZ w v s)(hb:Below w.heap.size w w'):mZ w' v s:=by
 obtain⟨rv,dv,rfl,hr,hd⟩:=h
 exact⟨rv,dv,rfl,hr.mono hb,hd.mono hb⟩
