/- Walks. -/
import Derived.Test.YtkjdidieiioijaaGreatK33
set_option linter.all false
set_option maxRecDepth 100000
set_option maxHeartbeats 16000000
namespace bz
def GK (s g:Pt):Pt:=⟨s.g+g.g,s.y+g.y,0,s.w+g.w⟩
def lM (c:d_)(p:Pt)(l:List Op)(a b:List Int):Nat->Option (Pt × Pt)
 | 0=>some (p,⟨0,0,0,0⟩)
 | k+1=>match lM c p l a b k with
  | none=>none
  | some (q,s)=>match one c q (iF l k) (at0 a k) (at0 b k) with
   | none=>none
   | some (x,g)=>some (x,GK s g)
def agR (c:d_)(p:Pt)(l:List Op)(a b:List Int):Option (Pt × Pt):=lM c p l a b l.length
theorem XM {c:d_}{p:Pt}{l:List Op}{a b:List Int}{k:Nat}(h:lM c p l a b k=none):∀n,k<=n->lM c p l a b n=none:=by
 intro n hn
 induction n with
 | zero=>obtain rfl:k=0:=by omega
         exact h
 | succ n ih =>
  by_cases e:k=n+1
  . rw[<- e];exact h
  . simp only[lM,ih (by omega)]
theorem Bd {c:d_}{p q s:Pt}{l:List Op}{a b:List Int}{k:Nat}(h:lM c p l a b k=some (q,s)):lM c p l a b (k+1)=match one c q (iF l k) (at0 a k) (at0 b k) with
    | none=>none
    | some (x,g)=>some (x,GK s g):=by simp only[lM,h]
theorem Lp {c:d_}{p q s x g:Pt}{l:List Op}{a b:List Int}{k:Nat}(h:lM c p l a b k=some (q,s))(h1:one c q (iF l k) (at0 a k) (at0 b k)=some (x,g)):lM c p l a b (k+1)=some (x,GK s g):=by
 rw[Bd h,h1]
theorem XN {c:d_}{p q s:Pt}{l:List Op}{a b:List Int}{k:Nat}(h:lM c p l a b k=some (q,s))(h1:one c q (iF l k) (at0 a k) (at0 b k)=none)(hk:k<l.length):agR c p l a b=none:=by
 refine XM (k:=k+1) ?_ _ (by omega)
 rw[Bd h,h1]
theorem aji {q:Pt}{m:Int}(hq:q.Ok)(hm:0<=m)(h:m<=q.g+q.y):(left q m).Ok:=by
 have hs:St.Ok ⟨q.g,q.g,q.y,q.y,q.t,q.t,q.w,q.w⟩:=⟨⟨hq.g.1,Int.le_refl _,hq.g.2⟩,⟨hq.y.1,Int.le_refl _,hq.y.2⟩,⟨hq.t.1,Int.le_refl _,hq.t.2⟩,⟨hq.w.1,Int.le_refl _,hq.w.2⟩⟩
 have:=left_ok (m:=m) hs hm h
 exact⟨⟨this.g.1,this.g.2.2⟩,⟨this.y.1,this.y.2.2⟩,⟨this.t.1,this.t.2.2⟩,⟨this.w.1,this.w.2.2⟩⟩
theorem agP {q:Pt}{m:Int}(hq:q.Ok)(hm:0<=m)(h:m<=q.g+q.y):(0<=(out q m).g/\(out q m).g<=2000000)/\(0<=(out q m).y/\(out q m).y<=2000000)/\(0<=(out q m).w/\(out q m).w<=1000000000)/\(out q m).t=0:=by
 have h1:=hq.g;have h2:=hq.y;have h3:=hq.w
 have a:=oz (m:=m) (n:=q.y) (all:=q.g+q.y) hm h2.1 (by omega)
 have b:=nO (m:=m) (n:=q.y) (all:=q.g+q.y) hm h2.1 (by omega)
 have d:=oz (m:=m) (n:=q.w) (all:=q.g+q.y) hm h3.1 (by omega)
 have e:=yI (m:=m) (n:=q.w) (all:=q.g+q.y) hm h3.1 (by omega)
 refine⟨⟨?_,?_⟩,⟨?_,?_⟩,⟨?_,?_⟩,rfl⟩ <;> simp only[out] <;> omega
theorem anv {c:d_}{q x g:Pt}{o:Op}{u v:Int}(hq:q.Ok)(ho:o.Is)(h:one c q o u v=some (x,g)) :
    x.Ok/\(0<=g.g/\g.g<=2000000)/\(0<=g.y/\g.y<=2000000)/\(0<=g.w/\g.w<=1000000000)/\g.t=0:=by
 cases ho with
 | bD l hl =>
  simp only[one,if_true] at h
  split at h
  . rename_i hb
    simp only[Option.some.injEq,Prod.mk.injEq] at h
    obtain⟨rfl,rfl⟩:=h
    exact⟨Pt.fZ.1 hb,by decide,by decide,by decide,rfl⟩
  . cases h
 | CP m hm =>
  simp only[one] at h
  rw[if_neg (by decide),if_pos trivial] at h
  split at h
  . rename_i hb
    simp only[Option.some.injEq,Prod.mk.injEq] at h
    obtain⟨rfl,rfl⟩:=h
    exact⟨aji hq hm.1 hb,agP hq hm.1 hb⟩
  . cases h
 | rest a b x' y ha hx =>
  simp only[one] at h
  rw[if_neg (by decide),if_neg (by decide)] at h
  split at h
  . rename_i hb
    simp only[Option.some.injEq,Prod.mk.injEq] at h
    obtain⟨rfl,rfl⟩:=h
    exact⟨Pt.fZ.1 hb,by decide,by decide,by decide,rfl⟩
  . cases h
structure alO (k:Nat)(q s:Pt):Prop where
 q:q.Ok
 g:0<=s.g/\s.g<=2000000*(k:Int)
 y:0<=s.y/\s.y<=2000000*(k:Int)
 w:0<=s.w/\s.w<=1000000000*(k:Int)
 t:s.t=0
theorem adC {c:d_}{p:Pt}{l:List Op}{a b:List Int}(hp:p.Ok)(ho:IY l=true):∀(k:Nat)(q s:Pt),k<=l.length->lM c p l a b k=some (q,s)->alO k q s:=by
 intro k
 induction k with
 | zero =>
  intro q s _ h
  simp only[lM,Option.some.injEq,Prod.mk.injEq] at h
  obtain⟨rfl,rfl⟩:=h
  exact⟨hp,by decide,by decide,by decide,rfl⟩
 | succ k ih =>
  intro q s hk h
  cases hpk:lM c p l a b k with
  | none=>simp only[lM,hpk] at h;cases h
  | some r =>
   obtain⟨q',s'⟩:=r
   have hi:=ih q' s' (by omega) hpk
   rw[Bd hpk] at h
   cases h1:one c q' (iF l k) (at0 a k) (at0 b k) with
   | none=>rw[h1] at h;cases h
   | some r1 =>
    obtain⟨x,g⟩:=r1
    rw[h1] at h
    simp only[Option.some.injEq,Prod.mk.injEq] at h
    obtain⟨rfl,rfl⟩:=h
    obtain⟨k1,k2,k3,k4,-⟩:=anv hi.q (Op.XC (IZ.1 ho k (by omega))) h1
    have:=hi.g;have:=hi.y;have:=hi.w
    refine⟨k1,⟨?_,?_⟩,⟨?_,?_⟩,⟨?_,?_⟩,rfl⟩ <;> simp only[GK] <;> omega
