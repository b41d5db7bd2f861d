/- Walks. -/
import Derived.IntWalk
import Derived.Test.YtkjdidieiioijaaGreatChecked
import Derived.Lib.Hide
import Derived.Test.YtkjdidieiioijaaGreatK02
set_option linter.all false
set_option maxRecDepth 100000
set_option maxHeartbeats 16000000
namespace bz
structure d_ where
 (jm jG least most f0 f1 h0 h1 bu mJ phi:Int)
structure St where
 (dB dK di dE gK gJ wlo whi:Int)
structure Pt where
 (g y t w:Int)
structure Op where
 (kind lg ly lt lw ay lY lX wlo whi:Int)
structure Out where
 (dB dK di dE wlo whi:Int)
def inB (n a b:Int):Bool:=decide (a<=n) && decide (n<=b)
def g_ (lo hi a b:Int):Bool:=decide (a<=lo) && decide (lo<=hi) && decide (hi<=b)
theorem eP {n a b:Int} : inB n a b=true↔a<=n/\n<=b:=by simp[inB]
theorem mM {lo hi a b:Int} : g_ lo hi a b=true↔a<=lo/\lo<=hi/\hi<=b:=by simp[g_,and_assoc]
def d_.ok (c:d_):Bool :=
 (inB c.f0 500 2000 && inB c.h0 1 100) && (inB c.f1 500 2000 && inB c.h1 1 100) && g_ c.jm c.jG 1 1000000 && g_ c.least c.most 0 100000 && inB c.bu 2000 5000 && g_ c.mJ c.phi 0 1000
def Pt.ok (p:Pt):Bool:=inB p.g 0 1000000 && inB p.y 0 1000000 && inB p.t 2000 5000 && inB p.w 0 1000000000
def St.ok (s:St):Bool:=g_ s.dB s.dK 0 1000000 && g_ s.di s.dE 0 1000000 && g_ s.gK s.gJ 2000 5000 && g_ s.wlo s.whi 0 1000000000
def Op.lot (o:Op):Pt:=⟨o.lg,o.ly,o.lt,o.lw⟩
def Op.ok (o:Op):Bool :=
 if o.kind=1 then o.lot.ok && decide (o.ay=0/\o.lY=0/\o.lX=0/\o.wlo=0/\o.whi=0)
 else if o.kind=2 then inB o.ay 0 2000000 && decide (o.lg=0/\o.ly=0/\o.lt=0/\o.lw=0/\o.lY=0/\o.lX=0/\o.wlo=0/\o.whi=0)
 else if o.kind=3 then g_ o.lY o.lX 0 1000 && g_ o.wlo o.whi 0 1000000 && decide (o.lg=0/\o.ly=0/\o.lt=0/\o.lw=0/\o.ay=0)
 else false
structure d_.Ok (c:d_):Prop where
 f0:500<=c.f0/\c.f0<=2000
 h0:1<=c.h0/\c.h0<=100
 f1:500<=c.f1/\c.f1<=2000
 h1:1<=c.h1/\c.h1<=100
 v:1<=c.jm/\c.jm<=c.jG/\c.jG<=1000000
 p:0<=c.least/\c.least<=c.most/\c.most<=100000
 bu:2000<=c.bu/\c.bu<=5000
 pur:0<=c.mJ/\c.mJ<=c.phi/\c.phi<=1000
theorem d_.fZ {c:d_} : c.ok=true↔c.Ok:=by
 simp only[d_.ok,Bool.and_eq_true,eP,mM]
 constructor
 . rintro⟨⟨⟨⟨⟨⟨a,b⟩,c,d⟩,e⟩,f⟩,g⟩,h⟩;exact⟨a,b,c,d,e,f,g,h⟩
 . rintro⟨a,b,c,d,e,f,g,h⟩;exact⟨⟨⟨⟨⟨⟨a,b⟩,c,d⟩,e⟩,f⟩,g⟩,h⟩
structure Pt.Ok (p:Pt):Prop where
 g:0<=p.g/\p.g<=1000000
 y:0<=p.y/\p.y<=1000000
 t:2000<=p.t/\p.t<=5000
 w:0<=p.w/\p.w<=1000000000
theorem Pt.fZ {p:Pt} : p.ok=true↔p.Ok:=by
 simp only[Pt.ok,Bool.and_eq_true,eP]
 constructor
 . rintro⟨⟨⟨a,b⟩,c⟩,d⟩;exact⟨a,b,c,d⟩
 . rintro⟨a,b,c,d⟩;exact⟨⟨⟨a,b⟩,c⟩,d⟩
structure Pt.MK (p:Pt):Prop where
 g:0<=p.g/\p.g<=100000000
 y:0<=p.y/\p.y<=100000000
 t:2000<=p.t/\p.t<=5000
 w:0<=p.w/\p.w<=100000000000
theorem Pt.Ok.wide {p:Pt}(h:p.Ok):p.MK:=⟨⟨h.g.1,by have:=h.g;omega⟩,⟨h.y.1,by have:=h.y;omega⟩,h.t,⟨h.w.1,by have:=h.w;omega⟩⟩
structure St.Ok (s:St):Prop where
 g:0<=s.dB/\s.dB<=s.dK/\s.dK<=1000000
 y:0<=s.di/\s.di<=s.dE/\s.dE<=1000000
 t:2000<=s.gK/\s.gK<=s.gJ/\s.gJ<=5000
 w:0<=s.wlo/\s.wlo<=s.whi/\s.whi<=1000000000
theorem St.fZ {s:St} : s.ok=true↔s.Ok:=by
 simp only[St.ok,Bool.and_eq_true,mM]
 constructor
 . rintro⟨⟨⟨a,b⟩,c⟩,d⟩;exact⟨a,b,c,d⟩
 . rintro⟨a,b,c,d⟩;exact⟨⟨⟨a,b⟩,c⟩,d⟩
inductive Op.Is:Op->Prop
 | bD (p:Pt) (h:p.Ok):Op.Is ⟨1,p.g,p.y,p.t,p.w,0,0,0,0,0⟩
 | CP (m:Int) (h:0<=m/\m<=2000000):Op.Is ⟨2,0,0,0,0,m,0,0,0,0⟩
 | rest (a b x y:Int) (h:0<=a/\a<=b/\b<=1000) (k:0<=x/\x<=y/\y<=1000000):Op.Is ⟨3,0,0,0,0,0,a,b,x,y⟩
theorem Op.XC {o:Op}(h:o.ok=true):o.Is:=by
 obtain⟨k,lg,ly,lt,lw,m,a,b,x,y⟩:=o
 unfold Op.ok at h
 simp only[Op.lot] at h
 split at h
 . rename_i e
   simp only[Bool.and_eq_true,decide_eq_true_eq,Pt.fZ] at h
   obtain⟨hp,rfl,rfl,rfl,rfl,rfl⟩:=h
   subst e
   exact .bD _ hp
 . split at h
   . rename_i e
     simp only[Bool.and_eq_true,decide_eq_true_eq,eP] at h
     obtain⟨hp,rfl,rfl,rfl,rfl,rfl,rfl,rfl,rfl⟩:=h
     subst e
     exact .CP _ hp
   . split at h
     . rename_i e
       simp only[Bool.and_eq_true,decide_eq_true_eq,mM] at h
       obtain⟨⟨hp,hq⟩,rfl,rfl,rfl,rfl,rfl⟩:=h
       subst e
       exact .rest _ _ _ _ hp hq
     . cases h
theorem Op.ap0 {o:Op}(h:o.Is):o.ok=true:=by
 cases h with
 | bD p h=>simpa [Op.ok,Op.lot,Pt.fZ] using h
 | CP m h=>simpa [Op.ok,eP] using h
 | rest a b x y h k=>simpa [Op.ok,mM] using ⟨h,k⟩
theorem Op.fZ {o:Op} : o.ok=true↔o.Is:=⟨Op.XC,Op.ap0⟩
def force (c:d_)(p:Pt):Int:=(p.g*c.f0+p.y*c.f1)*p.t*8314
def St.low (s:St):Pt:=⟨s.dB,s.di,s.gK,s.wlo⟩
def St.high (s:St):Pt:=⟨s.dK,s.dE,s.gJ,s.whi⟩
def thin (c:d_)(s:St):Bool:=decide (1000*s.di<c.mJ*(s.dK+s.di))
def ahy (c:d_)(s:St):Bool:=decide (1000*s.dE > c.phi*(s.dB+s.dE))
def sure (c:d_)(s:St):Int :=
 if force c s.low<c.least*c.jG*10000000 then 2 else if force c s.high > c.most*c.jm*10000000 then 3 else if thin c s=true then 4 else if ahy c s=true then 5 else 1
def pF (c:d_)(p:Pt):Int:=p.g*c.h0+p.y*c.h1
def lu (h t l lt:Int):Int:=if h+l=0 then t else(h*t+l*lt) / (h+l)
def near (bu t s:Int):Int:=t+((bu - t)*s).tdiv 1000
def part (m n all:Int):Int:=if all=0 then 0 else m*n / all
def bD (c:d_)(p l:Pt):Pt:=⟨p.g+l.g,p.y+l.y,lu (pF c p) p.t (pF c l) l.t,p.w+l.w⟩
def left (p:Pt)(m:Int):Pt:=⟨p.g - (m - part m p.y (p.g+p.y)),p.y - part m p.y (p.g+p.y),p.t,p.w - part m p.w (p.g+p.y)⟩
def out (p:Pt)(m:Int):Pt:=⟨m - part m p.y (p.g+p.y),part m p.y (p.g+p.y),0,part m p.w (p.g+p.y)⟩
def rest (c:d_)(p:Pt)(s w:Int):Pt:=⟨p.g,p.y,near c.bu p.t s,p.w+w⟩
def one (c:d_)(p:Pt)(o:Op)(s w:Int):Option (Pt × Pt) :=
 if o.kind=1 then if (bD c p o.lot).ok=true then some (bD c p o.lot,⟨0,0,0,0⟩) else none
 else if o.kind=2 then if o.ay<=p.g+p.y then some (left p o.ay,out p o.ay) else none
 else if (rest c p s w).ok=true then some (rest c p s w,⟨0,0,0,0⟩) else none
theorem Gm {a b:Int}(ha:0<=a)(hb:0<=b):0<=a*b:=Int.mul_nonneg ha hb
theorem Gn {a b c:Int}(h:a<=b)(hc:0<=c):a*c<=b*c:=Int.mul_le_mul_of_nonneg_right h hc
theorem mF {a b c:Int}(h:a<=b)(hc:0<=c):c*a<=c*b:=Int.mul_le_mul_of_nonneg_left h hc
theorem su (n all:Int):part 0 n all=0:=by unfold part;split <;> simp
theorem y9 {q m n all:Int}(h:0<all)(hq:q*all<=m*n):q<=part m n all:=by
 unfold part;rw[if_neg (by omega)];exact(Int.le_ediv_iff_mul_le h).2 hq
theorem Ba {m n all:Int}(h:0<all):part m n all*all<=m*n:=by
 unfold part;rw[if_neg (by omega)];exact Int.ediv_mul_le _ (by omega)
theorem oz {m n all:Int}(hm:0<=m)(hn:0<=n)(h:0<=all):0<=part m n all:=by
 by_cases e:all=0
 . simp[part,e]
 . exact y9 (by omega) (by rw[Int.zero_mul];exact Gm hm hn)
theorem yI {m n all:Int}(hm:0<=m)(hn:0<=n)(h:m<=all):part m n all<=n:=by
 unfold part;split
 . exact hn
 . have h1:m*n / all<=all*n / all:=Int.ediv_le_ediv (by omega) (Gn h hn)
   rwa [Int.mul_comm all n,Int.mul_ediv_cancel _ (by omega)] at h1
theorem nO {m n all:Int}(hm:0<=m)(hn:0<=n)(h:n<=all):part m n all<=m:=by
 unfold part;split
 . exact hm
 . have h1:m*n / all<=m*all / all:=Int.ediv_le_ediv (by omega) (mF h hm)
   rwa [Int.mul_ediv_cancel _ (by omega)] at h1
theorem tK {m n d e:Int}(hm:0<=m)(hn:0<=n)(h0:0<=d)(h:d<=e)(hmd:m<=d):part m n e<=part m n d:=by
 by_cases z:d=0
 . obtain rfl:m=0:=by omega
   simp[su]
 . have hq:=oz (m:=m) (n:=n) (all:=e) hm hn (by omega)
   have:=Ba (m:=m) (n:=n) (all:=e) (by omega)
   exact y9 (by omega) (Int.le_trans (mF h hq) this)
theorem acd {m n k d:Int}(hm:0<=m)(h0:0<=d)(h:n<=k):part m n d<=part m k d:=by
 unfold part;split
 . omega
 . exact Int.ediv_le_ediv (by omega) (mF h hm)
theorem Tq {m n k d:Int}(hm:0<=m)(h:n<=k)(hmd:m<=d):n - part m n d<=k - part m k d:=by
 by_cases z:d=0
 . obtain rfl:m=0:=by omega
   simpa [su] using h
 . have h1:=Ba (m:=m) (n:=k) (all:=d) (by omega)
   have h2:part m k d - (k - n)<=part m n d:=by
    refine y9 (by omega) ?_
    have h3:m*(k - n)<=d*(k - n):=Gn hmd (by omega)
    have e1:m*(k - n)=m*k - m*n:=Int.mul_sub _ _ _
    have e2:(part m k d - (k - n))*d=part m k d*d - (k - n)*d:=Int.sub_mul _ _ _
    have e3:(k - n)*d=d*(k - n):=Int.mul_comm _ _
    omega
   omega
theorem Ji {m g y z:Int}(hm:0<=m)(hg:0<=g)(hy:0<=y)(h:y<=z)(hmd:m<=g+y):part m y (g+y)<=part m z (g+z):=by
 by_cases e:g+y=0
 . obtain rfl:m=0:=by omega
   simp[su]
 . have h1:=Ba (m:=m) (n:=y) (all:=g+y) (by omega)
   have h2:=nO (m:=m) (n:=y) (all:=g+y) hm hy (by omega)
   refine y9 (by omega) ?_
   generalize part m y (g+y)=q at *
   have h3:q*(z - y)<=m*(z - y):=Gn h2 (by omega)
   have e1:m*(z - y)=m*z - m*y:=Int.mul_sub _ _ _
   have e2:q*(g+z)=q*(g+y)+q*(z - y):=by rw[<- Int.mul_add];congr 1;omega
   omega
theorem QZ {m g y z:Int}(hm:0<=m)(hg:0<=g)(hy:0<=y)(h:y<=z)(hmd:m<=g+y):y - part m y (g+y)<=z - part m z (g+z):=by
 by_cases e:g+y=0
 . obtain rfl:m=0:=by omega
   simpa [su] using h
 . have h1:=Ba (m:=m) (n:=z) (all:=g+z) (by omega)
   have h0:=oz (m:=m) (n:=z) (all:=g+z) hm (by omega) (by omega)
   have h2:part m z (g+z) - (z - y)<=part m y (g+y):=by
    refine y9 (by omega) ?_
    generalize part m z (g+z)=q at *
    have e1:q*(g+z)=q*(g+y)+q*(z - y):=by rw[<- Int.mul_add];congr 1;omega
    have e2:m*(z - y)=m*z - m*y:=Int.mul_sub _ _ _
    have e3:(q - (z - y))*(g+y)=q*(g+y) - (z - y)*(g+y):=Int.sub_mul _ _ _
    have e4:(m - (g+y))*(z - y)=m*(z - y) - (z - y)*(g+y):=by rw[Int.sub_mul];congr 1;exact Int.mul_comm _ _
    have h3:(m - (g+y))*(z - y)<=0:=Int.mul_nonpos_of_nonpos_of_nonneg (by omega) (by omega)
    have h4:=Gm h0 (show 0<=z - y by omega)
    omega
   omega
theorem Gp {m g k y:Int}(hm:0<=m)(hg:0<=g)(hy:0<=y)(h:g<=k)(hmd:m<=g+y):g+part m y (g+y)<=k+part m y (k+y):=by
 by_cases e:g+y=0
 . obtain rfl:m=0:=by omega
   simpa [su] using h
 . have h1:=Ba (m:=m) (n:=y) (all:=g+y) (by omega)
   have h2:=nO (m:=m) (n:=y) (all:=g+y) hm hy (by omega)
   have h3:part m y (g+y) - (k - g)<=part m y (k+y):=by
    refine y9 (by omega) ?_
    generalize part m y (g+y)=q at *
    have e1:(q - (k - g))*(k+y)=q*(g+y)+q*(k - g) - (k - g)*(k+y):=by
     rw[Int.sub_mul,<- Int.mul_add];congr 2;omega
    have e2:(q - (k+y))*(k - g)=q*(k - g) - (k - g)*(k+y):=by rw[Int.sub_mul];congr 1;exact Int.mul_comm _ _
    have h3:(q - (k+y))*(k - g)<=0:=Int.mul_nonpos_of_nonpos_of_nonneg (by omega) (by omega)
    omega
   omega
theorem Vb {q h t l lt:Int}(h0:0<h+l)(hq:q*(h+l)<=h*t+l*lt):q<=lu h t l lt:=by
 unfold lu;rw[if_neg (by omega)];exact(Int.le_ediv_iff_mul_le h0).2 hq
theorem Yo {h t l lt:Int}(h0:0<h+l):lu h t l lt*(h+l)<=h*t+l*lt:=by
 unfold lu;rw[if_neg (by omega)];exact Int.ediv_mul_le _ (by omega)
theorem VM {h t u l lt:Int}(hh:0<=h)(hl:0<=l)(htu:t<=u):lu h t l lt<=lu h u l lt:=by
 unfold lu;split
 . exact htu
 . exact Int.ediv_le_ediv (by omega) (Int.add_le_add_right (mF htu hh) _)
theorem VK {h t l lt a:Int}(hh:0<=h)(hl:0<=l)(ht:a<=t)(hlt:a<=lt):a<=lu h t l lt:=by
 by_cases e:h+l=0
 . simpa [lu,e] using ht
 . refine Vb (by omega) ?_
   have e1:a*(h+l)=h*a+l*a:=by rw[Int.mul_add,Int.mul_comm a h,Int.mul_comm a l]
   have h1:=mF ht hh
   have h2:=mF hlt hl
   omega
theorem VL {h t l lt b:Int}(hh:0<=h)(hl:0<=l)(ht:t<=b)(hlt:lt<=b):lu h t l lt<=b:=by
 by_cases e:h+l=0
 . simpa [lu,e] using ht
 . have h1:=mF ht hh
   have h2:=mF hlt hl
   have h3:h*t+l*lt<=b*(h+l):=by
    have e1:b*(h+l)=h*b+l*b:=by rw[Int.mul_add,Int.mul_comm b h,Int.mul_comm b l]
    omega
   unfold lu;rw[if_neg e]
   have:=Int.ediv_le_ediv (c:=h+l) (by omega) h3
   rwa [Int.mul_ediv_cancel _ (by omega)] at this
theorem Uh {h k t l lt:Int}(hh:0<=h)(hl:0<=l)(hk:h<=k)(ht:lt<=t):lu h t l lt<=lu k t l lt:=by
 by_cases e:h+l=0
 . obtain rfl:h=0:=by omega
   obtain rfl:l=0:=by omega
   by_cases z:k=0
   . subst z;exact Int.le_refl _
   . simp[lu,z,Int.mul_ediv_cancel_left]
 . have h1:=Yo (h:=h) (t:=t) (l:=l) (lt:=lt) (by omega)
   have h2:=VL (h:=h) (t:=t) (l:=l) (lt:=lt) (b:=t) hh hl (Int.le_refl _) ht
   refine Vb (by omega) ?_
   generalize lu h t l lt=q at *
   have e1:q*(k+l)=q*(h+l)+q*(k - h):=by rw[<- Int.mul_add];congr 1;omega
   have e2:k*t=h*t+t*(k - h):=by rw[Int.mul_sub,Int.mul_comm t k,Int.mul_comm t h];omega
   have h3:=Gn h2 (show 0<=k - h by omega)
   omega
theorem Ug {h k t l lt:Int}(hh:0<=h)(hl:0<=l)(hk:h<=k)(ht:t<=lt):lu k t l lt<=lu h t l lt:=by
 by_cases e:h+l=0
 . obtain rfl:h=0:=by omega
   obtain rfl:l=0:=by omega
   by_cases z:k=0
   . subst z;exact Int.le_refl _
   . simp[lu,z,Int.mul_ediv_cancel_left]
 . have h1:=Yo (h:=k) (t:=t) (l:=l) (lt:=lt) (by omega)
   have h2:=VK (h:=k) (t:=t) (l:=l) (lt:=lt) (a:=t) (by omega) hl (Int.le_refl _) ht
   refine Vb (by omega) ?_
   generalize lu k t l lt=q at *
   have e1:q*(k+l)=q*(h+l)+q*(k - h):=by rw[<- Int.mul_add];congr 1;omega
   have e2:k*t=h*t+t*(k - h):=by rw[Int.mul_sub,Int.mul_comm t k,Int.mul_comm t h];omega
   have h3:=Gn h2 (show 0<=k - h by omega)
   omega
theorem Jk {a h b t l lt:Int}(ha:0<=a)(hl:0<=l)(h1:a<=h)(h2:h<=b) :
    min (lu a t l lt) (lu b t l lt)<=lu h t l lt/\lu h t l lt<=max (lu a t l lt) (lu b t l lt):=by
 by_cases e:t<=lt
 . have x:=Ug ha hl h1 e
   have y:=Ug (show 0<=h by omega) hl h2 e
   omega
 . have x:=Uh ha hl h1 (show lt<=t by omega)
   have y:=Uh (show 0<=h by omega) hl h2 (show lt<=t by omega)
   omega
theorem Gx (a:Int):a.tdiv 1000=if 0<=a then a / 1000 else -((-a) / 1000):=by
 split
 . rename_i h;rw[Int.tdiv_eq_ediv_of_nonneg h]
 . rename_i h
   have:=Int.neg_tdiv (a:=-a) (b:=1000)
   rw[Int.neg_neg] at this
   rw[this,Int.tdiv_eq_ediv_of_nonneg (by omega)]
theorem Vg {bu t u s:Int}(h0:0<=s/\s<=1000)(h:t<=u):near bu t s<=near bu u s:=by
 unfold near
 rw[Gx,Gx]
 have e:(bu - t)*s=(bu - u)*s+(u - t)*s:=by rw[<- Int.add_mul];congr 1;omega
 have h1:(u - t)*s<=(u - t)*1000:=mF h0.2 (by omega)
 have h2:=Gm (show 0<=u - t by omega) h0.1
 rw[e]
 generalize (bu - u)*s=A at *
 generalize (u - t)*s=B at *
 split <;> split <;> omega
theorem zi {bu t a s b:Int}(h0:0<=a)(h1:a<=s)(h2:s<=b) :
    min (near bu t a) (near bu t b)<=near bu t s/\near bu t s<=max (near bu t a) (near bu t b):=by
 unfold near
 rw[Gx,Gx,Gx]
 by_cases e:0<=bu - t
 . have i0:=Gm e h0
   have i1:=mF h1 e
   have i2:=mF h2 e
   rw[if_pos (by omega),if_pos (by omega),if_pos (by omega)]
   omega
 . have f0:=Gm (show 0<=-(bu - t) by omega) h0
   have f1:=mF h1 (show 0<=-(bu - t) by omega)
   have f2:=mF h2 (show 0<=-(bu - t) by omega)
   simp only[Int.neg_mul] at f0 f1 f2
   split <;> split <;> split <;> omega
theorem Pn {bu t s lo hi:Int}(h0:0<=s/\s<=1000)(ht:lo<=t/\t<=hi)(hr:lo<=bu/\bu<=hi):lo<=near bu t s/\near bu t s<=hi:=by
 have h:=zi (bu:=bu) (t:=t) (a:=0) (s:=s) (b:=1000) (by omega) h0.1 h0.2
 have e0:near bu t 0=t:=by simp[near]
 have e1:near bu t 1000=bu:=by unfold near;rw[Int.mul_tdiv_cancel _ (by omega)];omega
 rw[e0,e1] at h
 omega
theorem aaZ {c:d_}{p q:Pt}(hc:c.Ok)(hg:p.g<=q.g)(hy:p.y<=q.y):pF c p<=pF c q:=by
 have a:=Gn hg (show 0<=c.h0 by have:=hc.h0;omega)
 have b:=Gn hy (show 0<=c.h1 by have:=hc.h1;omega)
 unfold pF;omega
theorem G9 {c:d_}{p:Pt}(hc:c.Ok)(hg:0<=p.g)(hy:0<=p.y):0<=pF c p:=by
 have a:=Gm hg (show 0<=c.h0 by have:=hc.h0;omega)
 have b:=Gm hy (show 0<=c.h1 by have:=hc.h1;omega)
 unfold pF;omega
structure St.Has (s:St)(p:Pt):Prop where
 g:s.dB<=p.g/\p.g<=s.dK
 y:s.di<=p.y/\p.y<=s.dE
 t:s.gK<=p.t/\p.t<=s.gJ
 w:s.wlo<=p.w/\p.w<=s.whi
structure Out.Has (s:Out)(p:Pt):Prop where
 g:s.dB<=p.g/\p.g<=s.dK
 y:s.di<=p.y/\p.y<=s.dE
 w:s.wlo<=p.w/\p.w<=s.whi
 t:p.t=0
theorem St.Has.ok {s:St}{p:Pt}(h:s.Has p)(hs:s.Ok):p.Ok:=by
 obtain⟨a,b,c,d⟩:=h
 obtain⟨e,f,g,k⟩:=hs
 exact⟨by omega,by omega,by omega,by omega⟩
def adp (c:d_)(s:St)(l:Pt):St :=
 ⟨s.dB+l.g,s.dK+l.g,s.di+l.y,s.dE+l.y,min (lu (pF c s.low) s.gK (pF c l) l.t) (lu (pF c s.high) s.gK (pF c l) l.t),max (lu (pF c s.low) s.gJ (pF c l) l.t) (lu (pF c s.high) s.gJ (pF c l) l.t),s.wlo+l.w,s.whi+l.w⟩
def Ha (s:St)(m:Int):St :=
 ⟨s.dB - (m - part m s.di (s.dB+s.di)),s.dK - (m - part m s.dE (s.dK+s.dE)),s.di - part m s.di (s.dB+s.di),s.dE - part m s.dE (s.dK+s.dE),s.gK,s.gJ,s.wlo - part m s.wlo (s.dB+s.di),s.whi - part m s.whi (s.dK+s.dE)⟩
def Zv (s:St)(m:Int):Out :=
 ⟨m - part m s.dE (s.dB+s.dE),m - part m s.di (s.dK+s.di),part m s.di (s.dK+s.di),part m s.dE (s.dB+s.dE),part m s.wlo (s.dK+s.dE),part m s.whi (s.dB+s.di)⟩
def TQ (c:d_)(s:St)(a b x y:Int):St :=
 ⟨s.dB,s.dK,s.di,s.dE,min (near c.bu s.gK a) (near c.bu s.gK b),max (near c.bu s.gJ a) (near c.bu s.gJ b),s.wlo+x,s.whi+y⟩
def act (c:d_)(s:St)(o:Op):Option (St × Out) :=
 if o.kind=1 then if s.dK+o.lg<=1000000/\s.dE+o.ly<=1000000/\s.whi+o.lw<=1000000000 then some (adp c s o.lot,⟨0,0,0,0,0,0⟩) else none
 else if o.kind=2 then if o.ay<=s.dB+s.di then some (Ha s o.ay,Zv s o.ay) else none
 else if s.whi+o.whi<=1000000000 then some (TQ c s o.lY o.lX o.wlo o.whi,⟨0,0,0,0,0,0⟩) else none
theorem anb {s:St}{p:Pt}(h:s.Has p):s.low.g<=p.g/\s.low.y<=p.y/\p.g<=s.high.g/\p.y<=s.high.y:=⟨h.g.1,h.y.1,h.g.2,h.y.2⟩
theorem U9 {c:d_}{s:St}{p l:Pt}(hc:c.Ok)(hs:s.Ok)(hl:0<=l.g/\0<=l.y)(hp:s.Has p):(adp c s l).Has (bD c p l):=by
 obtain⟨u1,u2,u3,u4⟩:=anb hp
 have hg:=hs.g
 have hy:=hs.y
 have n0:=G9 hc (p:=l) hl.1 hl.2
 have n1:=G9 hc (p:=s.low) (by show 0<=s.dB;omega) (by show 0<=s.di;omega)
 have n2:=aaZ hc u1 u2
 have n3:=aaZ hc u3 u4
 have a:=Jk (t:=s.gK) (lt:=l.t) n1 n0 n2 n3
 have b:=Jk (t:=s.gJ) (lt:=l.t) n1 n0 n2 n3
 have x:=VM (lt:=l.t) (Int.le_trans n1 n2) n0 hp.t.1
 have y:=VM (lt:=l.t) (Int.le_trans n1 n2) n0 hp.t.2
 have:=hp.g;have:=hp.y;have:=hp.w
 refine⟨⟨?_,?_⟩,⟨?_,?_⟩,⟨?_,?_⟩,⟨?_,?_⟩⟩ <;> simp only[adp,bD] <;> omega
theorem age {c:d_}{s:St}{l:Pt}(hc:c.Ok)(hs:s.Ok)(hl:0<=l.g/\0<=l.y/\0<=l.w/\2000<=l.t/\l.t<=5000)(h:s.dK+l.g<=1000000/\s.dE+l.y<=1000000/\s.whi+l.w<=1000000000):(adp c s l).Ok:=by
 have hg:=hs.g
 have hy:=hs.y
 have ht:=hs.t
 have hw:=hs.w
 have n0:=G9 hc (p:=l) hl.1 hl.2.1
 have n1:=G9 hc (p:=s.low) (by show 0<=s.dB;omega) (by show 0<=s.di;omega)
 have n2:=G9 hc (p:=s.high) (by show 0<=s.dK;omega) (by show 0<=s.dE;omega)
 have a1:=VK (a:=2000) n1 n0 ht.1 hl.2.2.2.1
 have a2:=VK (a:=2000) n2 n0 ht.1 hl.2.2.2.1
 have b1:=VL (b:=5000) n1 n0 ht.2.2 hl.2.2.2.2
 have b2:=VL (b:=5000) n2 n0 ht.2.2 hl.2.2.2.2
 have c1:=VM (lt:=l.t) n1 n0 ht.2.1
 refine⟨⟨?_,?_,?_⟩,⟨?_,?_,?_⟩,⟨?_,?_,?_⟩,⟨?_,?_,?_⟩⟩ <;> simp only[adp] <;> omega
theorem He {s:St}{p:Pt}{m:Int}(hs:s.Ok)(hm:0<=m)(h:m<=s.dB+s.di)(hp:s.Has p):(Ha s m).Has (left p m)/\(Zv s m).Has (out p m):=by
 obtain⟨g0,g1,-⟩:=hs.g
 obtain⟨y0,y1,-⟩:=hs.y
 obtain⟨w0,w1,-⟩:=hs.w
 have:=hp.g;have:=hp.y;have:=hp.w;have:=hp.t
 -- what stays of the NJ
 have a1:=Gp (m:=m) (g:=s.dB) (k:=p.g) (y:=s.di) hm g0 y0 (by omega) h
 have a2:=Ji (m:=m) (g:=p.g) (y:=s.di) (z:=p.y) hm (by omega) y0 (by omega) (by omega)
 have a3:=Gp (m:=m) (g:=p.g) (k:=s.dK) (y:=p.y) hm (by omega) (by omega) (by omega) (by omega)
 have a4:=Ji (m:=m) (g:=s.dK) (y:=p.y) (z:=s.dE) hm (by omega) (by omega) (by omega) (by omega)
 -- what stays of the apW
 have b1:=QZ (m:=m) (g:=s.dB) (y:=s.di) (z:=p.y) hm g0 y0 (by omega) h
 have b2:=tK (m:=m) (n:=p.y) (d:=s.dB+p.y) (e:=p.g+p.y) hm (by omega) (by omega) (by omega) (by omega)
 have b3:=tK (m:=m) (n:=p.y) (d:=p.g+p.y) (e:=s.dK+p.y) hm (by omega) (by omega) (by omega) (by omega)
 have b4:=QZ (m:=m) (g:=s.dK) (y:=p.y) (z:=s.dE) hm (by omega) (by omega) (by omega) (by omega)
 -- what goes out
 have c1:=tK (m:=m) (n:=s.di) (d:=p.g+s.di) (e:=s.dK+s.di) hm (by omega) (by omega) (by omega) (by omega)
 have c2:=Ji (m:=m) (g:=p.g) (y:=s.di) (z:=p.y) hm (by omega) y0 (by omega) (by omega)
 have c3:=Ji (m:=m) (g:=s.dB) (y:=p.y) (z:=s.dE) hm g0 (by omega) (by omega) (by omega)
 -- avR
 have d1:=Tq (m:=m) (n:=s.wlo) (k:=p.w) (d:=p.g+p.y) hm (by omega) (by omega)
 have d2:=tK (m:=m) (n:=s.wlo) (d:=s.dB+s.di) (e:=p.g+p.y) hm (by omega) (by omega) (by omega) h
 have d3:=Tq (m:=m) (n:=p.w) (k:=s.whi) (d:=p.g+p.y) hm (by omega) (by omega)
 have d4:=tK (m:=m) (n:=s.whi) (d:=p.g+p.y) (e:=s.dK+s.dE) hm (by omega) (by omega) (by omega) (by omega)
 have d5:=tK (m:=m) (n:=s.wlo) (d:=p.g+p.y) (e:=s.dK+s.dE) hm (by omega) (by omega) (by omega) (by omega)
 have d6:=acd (m:=m) (n:=s.wlo) (k:=p.w) (d:=p.g+p.y) hm (by omega) (by omega)
 have d7:=acd (m:=m) (n:=p.w) (k:=s.whi) (d:=p.g+p.y) hm (by omega) (by omega)
 have d8:=tK (m:=m) (n:=s.whi) (d:=s.dB+s.di) (e:=p.g+p.y) hm (by omega) (by omega) (by omega) h
 constructor
 . refine⟨⟨?_,?_⟩,⟨?_,?_⟩,⟨?_,?_⟩,⟨?_,?_⟩⟩ <;> simp only[Ha,left] <;> omega
 . refine⟨⟨?_,?_⟩,⟨?_,?_⟩,⟨?_,?_⟩,rfl⟩ <;> simp only[Zv,out] <;> omega
theorem left_ok {s:St}{m:Int}(hs:s.Ok)(hm:0<=m)(h:m<=s.dB+s.di):(Ha s m).Ok:=by
 obtain⟨g0,g1,g2⟩:=hs.g
 obtain⟨y0,y1,y2⟩:=hs.y
 obtain⟨w0,w1,w2⟩:=hs.w
 have lo:s.Has s.low:=⟨⟨Int.le_refl _,g1⟩,⟨Int.le_refl _,y1⟩,⟨Int.le_refl _,hs.t.2.1⟩,⟨Int.le_refl _,w1⟩⟩
 obtain⟨a,b,-,d⟩:=(He hs hm h lo).1
 simp only[Ha,left,St.low] at a b d
 have p1:=yI (m:=m) (n:=s.di) (all:=s.dB+s.di) hm y0 h
 have p2:=oz (m:=m) (n:=s.dE) (all:=s.dK+s.dE) hm (by omega) (by omega)
 have p3:=yI (m:=m) (n:=s.wlo) (all:=s.dB+s.di) hm w0 h
 have p4:=oz (m:=m) (n:=s.whi) (all:=s.dK+s.dE) hm (by omega) (by omega)
 have p5:=nO (m:=m) (n:=s.dE) (all:=s.dK+s.dE) hm (by omega) (by omega)
 have p6:=Gp (m:=m) (g:=0) (k:=s.dB) (y:=s.di) hm (by omega) y0 g0
 have p7:0<=s.dB - (m - part m s.di (s.dB+s.di)):=by
  by_cases e:s.dB+s.di=0
  . have:m=0:=by omega
    subst this;simp[su];exact g0
  . have:m - s.dB<=part m s.di (s.dB+s.di):=by
     refine y9 (by omega) ?_
     have e1:(m - s.dB)*(s.dB+s.di)=m*s.di+(m - (s.dB+s.di))*s.dB:=by
      rw[Int.sub_mul,Int.sub_mul,Int.mul_add,Int.mul_add,Int.add_mul,Int.mul_comm s.di s.dB];omega
     have:=Int.mul_nonpos_of_nonpos_of_nonneg (show m - (s.dB+s.di)<=0 by omega) g0
     omega
    omega
 refine⟨⟨?_,?_,?_⟩,⟨?_,?_,?_⟩,hs.t,⟨?_,?_,?_⟩⟩ <;> simp only[Ha] <;> omega
theorem CB {c:d_}{s:St}{p:Pt}{a b x y u v:Int}(hc:c.Ok)(h:0<=a/\a<=b/\b<=1000)(hp:s.Has p)(hu:a<=u/\u<=b)(hv:x<=v/\v<=y):(TQ c s a b x y).Has (rest c p u v):=by
 have:=hp.g;have:=hp.y;have:=hp.w;have:=hp.t
 have n1:=zi (bu:=c.bu) (t:=s.gK) h.1 hu.1 hu.2
 have n2:=zi (bu:=c.bu) (t:=s.gJ) h.1 hu.1 hu.2
 have n3:=Vg (bu:=c.bu) (t:=s.gK) (u:=p.t) (s:=u) (by omega) (by omega)
 have n4:=Vg (bu:=c.bu) (t:=p.t) (u:=s.gJ) (s:=u) (by omega) (by omega)
 refine⟨⟨?_,?_⟩,⟨?_,?_⟩,⟨?_,?_⟩,⟨?_,?_⟩⟩ <;> simp only[TQ,rest] <;> omega
theorem acv {c:d_}{s:St}{a b x y:Int}(hc:c.Ok)(hs:s.Ok)(h:0<=a/\a<=b/\b<=1000)(k:0<=x/\x<=y)(hw:s.whi+y<=1000000000):(TQ c s a b x y).Ok:=by
 have ht:=hs.t
 have n1:=Pn (bu:=c.bu) (t:=s.gK) (s:=a) (lo:=2000) (hi:=5000) (by omega) (by omega) hc.bu
 have n2:=Pn (bu:=c.bu) (t:=s.gK) (s:=b) (lo:=2000) (hi:=5000) (by omega) (by omega) hc.bu
 have n3:=Pn (bu:=c.bu) (t:=s.gJ) (s:=a) (lo:=2000) (hi:=5000) (by omega) (by omega) hc.bu
 have n4:=Pn (bu:=c.bu) (t:=s.gJ) (s:=b) (lo:=2000) (hi:=5000) (by omega) (by omega) hc.bu
 have n5:=Vg (bu:=c.bu) (s:=a) (by omega) ht.2.1
 have hww:=hs.w
 refine⟨hs.g,hs.y,⟨?_,?_,?_⟩,⟨?_,?_,?_⟩⟩ <;> simp only[TQ] <;> omega
theorem acO {c:d_}{s:St}{o:Op}{p:Pt}{u v:Int}{n:St}{q:Out}(hc:c.Ok)(hs:s.Ok)(ho:o.Is)(hp:s.Has p)(hu:o.lY<=u/\u<=o.lX)(hv:o.wlo<=v/\v<=o.whi)
    (h:act c s o=some (n,q)):∃x g,one c p o u v=some (x,g)/\n.Has x/\q.Has g/\n.Ok:=by
 have pk:=hp.ok hs
 cases ho with
 | bD l hl =>
  simp only[act,if_true,Op.lot] at h
  split at h
  . rename_i hb
    simp only[Option.some.injEq,Prod.mk.injEq] at h
    obtain⟨rfl,rfl⟩:=h
    have hh:=U9 (l:=l) hc hs ⟨hl.g.1,hl.y.1⟩ hp
    have hk:=age (l:=l) hc hs ⟨hl.g.1,hl.y.1,hl.w.1,hl.t⟩ hb
    have hx:=hh.ok hk
    refine⟨bD c p l,⟨0,0,0,0⟩,?_,hh,⟨by decide,by decide,by decide,rfl⟩,hk⟩
    show(if (bD c p l).ok=true then some (bD c p l,(⟨0,0,0,0⟩:Pt)) else none)=_
    rw[if_pos (Pt.fZ.2 hx)]
  . cases h
 | CP m hm =>
  simp only[act] at h
  rw[if_neg (by decide),if_pos trivial] at h
  split at h
  . rename_i hb
    simp only[Option.some.injEq,Prod.mk.injEq] at h
    obtain⟨rfl,rfl⟩:=h
    obtain⟨h1,h2⟩:=He hs hm.1 hb hp
    refine⟨_,_,?_,h1,h2,left_ok hs hm.1 hb⟩
    have:=hp.g;have:=hp.y
    simp only[one]
    rw[if_neg (by decide),if_pos trivial,if_pos (by omega)]
  . cases h
 | rest a b x y ha hx =>
  simp only[act] at h
  rw[if_neg (by decide),if_neg (by decide)] at h
  split at h
  . rename_i hb
    simp only[Option.some.injEq,Prod.mk.injEq] at h
    obtain⟨rfl,rfl⟩:=h
    have h1:=CB hc ha hp hu hv
    have h2:=acv hc hs ha ⟨hx.1,hx.2.1⟩ hb
    refine⟨_,⟨0,0,0,0⟩,?_,h1,⟨by decide,by decide,by decide,rfl⟩,h2⟩
    simp only[one]
    rw[if_neg (by decide),if_neg (by decide),if_pos (Pt.fZ.2 (h1.ok h2))]
  . cases h
end bz
namespace Go.Proofs.YtkjdidieiioijaaGreat.G
open Go.RowKit Go.Sd bz
abbrev nR (p:Pt):Value:=.agg #[.int .i64 p.g,.int .i64 p.y,.int .i64 p.t,.int .i64 p.w]
abbrev jF (s:St):Value:=.agg #[.int .i64 s.dB,.int .i64 s.dK,.int .i64 s.di,.int .i64 s.dE,.int .i64 s.gK,.int .i64 s.gJ,.int .i64 s.wlo,.int .i64 s.whi]
abbrev gm (c:d_):Value:=.agg #[.int .i64 c.jm,.int .i64 c.jG,.int .i64 c.least,.int .i64 c.most,.int .i64 c.f0,.int .i64 c.f1,.int .i64 c.h0,.int .i64 c.h1,.int .i64 c.bu,.int .i64 c.mJ,.int .i64 c.phi]
abbrev Ll (o:bz.Op):Value:=.agg #[.int .i64 o.kind,.int .i64 o.lg,.int .i64 o.ly,.int .i64 o.lt,.int .i64 o.lw,.int .i64 o.ay,.int .i64 o.lY,.int .i64 o.lX,.int .i64 o.wlo,.int .i64 o.whi]
abbrev l9 (o:Out):Value:=.agg #[.int .i64 o.dB,.int .i64 o.dK,.int .i64 o.di,.int .i64 o.dE,.int .i64 o.wlo,.int .i64 o.whi]
def aB (b:Bool)(w:World)(e:Ending)(w':World):Prop:=∃t:Bool,e=.returned (.bool t)/\Hid (b=t)/\Below w.heap.size w w'
def iM (b:Bool)(w:World)(e:Ending)(w':World):Prop:=∃t:Bool,e=.returned (.bool t)/\Hid (b=t)/\w=w'
theorem aB.mk {b t:Bool}{w w':World}(h:b=t)(hb:Below w.heap.size w w'):aB b w (.returned (.bool t)) w':=⟨t,rfl,h,hb⟩
theorem iM.mk {b t:Bool}{w:World}(h:b=t):iM b w (.returned (.bool t)) w:=⟨t,rfl,h,rfl⟩
theorem boxed {w W:World}{c:Array Value}{t:TypeId}(h:w.alloc (.cells c t)=W):W.heap[w.heap.size]? = some (.cells c t)/\Below w.heap.size w W/\W.heap.size=w.heap.size+1:=by
 subst h
 exact⟨World.alloc_heap_new w _,(Below.refl _ _).alloc (Nat.le_refl _) _,by simp⟩
theorem lC {B:Nat}{W w:World}(h:Below B W w)(o:Obj)(hb:B<=w.heap.size:=by simp <;> omega):Below B W (w.alloc o):=h.alloc hb o
theorem TP (a b c:Int)(w:World) :
    Calls Tryz.prog 22 #[.int .i64 a,.int .i64 b,.int .i64 c] w (iM (inB a b c) w):=by
 by_cases h:b<=a
 . go_enter Tryz.func22,Tryz.ntmps22
   go_wp2
   go_ret
   exact iM.mk (by unfold inB;simp[h] <;> omega)
 . go_enter Tryz.func22,Tryz.ntmps22
   go_wp2
   go_ret
   exact iM.mk (by unfold inB;simp[h] <;> omega)
theorem jv (a b c:Int)(w:World) :
    Calls Tryz.prog 73 #[.int .i64 a,.int .i64 b,.int .i64 c] w (iM (inB a b c) w):=by
 by_cases h:b<=a
 . go_enter Tryz.func73,Tryz.ntmps73
   go_wp2
   go_ret
   exact iM.mk (by unfold inB;simp[h] <;> omega)
 . go_enter Tryz.func73,Tryz.ntmps73
   go_wp2
   go_ret
   exact iM.mk (by unfold inB;simp[h] <;> omega)
theorem VC (a b c d:Int)(w:World) :
    Calls Tryz.prog 123 #[.agg #[.int .i64 a,.int .i64 b],.int .i64 c,.int .i64 d] w (aB (g_ a b c d) w):=by
 by_cases h:c<=a
 . by_cases h2:a<=b
   . go_enter Tryz.func123,Tryz.ntmps123
     go_wp2
     go_ret
     exact aB.mk (by unfold g_;simp[h,h2] <;> omega) (lC (Below.refl _ _) _)
   . go_enter Tryz.func123,Tryz.ntmps123
     go_wp2
     go_ret
     exact aB.mk (by unfold g_;simp[h2] <;> omega) (lC (Below.refl _ _) _)
 . go_enter Tryz.func123,Tryz.ntmps123
   go_wp2
   go_ret
   exact aB.mk (by unfold g_;simp[h] <;> omega) (lC (Below.refl _ _) _)
theorem oG (a b c d:Int)(w:World) :
    Calls Tryz.prog 74 #[.agg #[.int .i64 a,.int .i64 b],.int .i64 c,.int .i64 d] w (aB (g_ a b c d) w):=by
 by_cases h:c<=a
 . by_cases h2:a<=b
   . go_enter Tryz.func74,Tryz.ntmps74
     go_wp2
     go_ret
     exact aB.mk (by unfold g_;simp[h,h2] <;> omega) (lC (Below.refl _ _) _)
   . go_enter Tryz.func74,Tryz.ntmps74
     go_wp2
     go_ret
     exact aB.mk (by unfold g_;simp[h2] <;> omega) (lC (Below.refl _ _) _)
 . go_enter Tryz.func74,Tryz.ntmps74
   go_wp2
   go_ret
   exact aB.mk (by unfold g_;simp[h] <;> omega) (lC (Below.refl _ _) _)
theorem ahv (s:St)(w:World):Calls Tryz.prog 69 #[jF s] w (aB s.ok w):=by
 obtain⟨W,hW⟩:=aG (w.alloc (.cells #[.int .i64 s.dB,.int .i64 s.dK,.int .i64 s.di,.int .i64 s.dE,.int .i64 s.gK,.int .i64 s.gJ,.int .i64 s.wlo,.int .i64 s.whi] 40))
 obtain⟨aJ,f_,iC⟩:=boxed hW
 have hBw:Below w.heap.size w W:=f_
 obtain⟨qK,jQ,jR⟩:=ah aJ
 obtain⟨eG,eH,fP,fQ,gV,gW,gX,gY⟩:=rc8 aJ
 clear jQ jR aJ
 have yL:w.heap.size<=w.heap.size:=by omega
 clear f_ iC
 have hg:=az W
 go_enter Tryz.func69,Tryz.ntmps69
 go_wp2_with (go_at_call 123;refine ax (VC _ _ _ _ _) ?_;rintro e w1 ⟨(_|_),rfl,ht,hB⟩ <;> ((first|(obtain⟨g,rfl⟩:=g.next hB)|(obtain⟨g,rfl⟩:∃g:Grow W,w1=g.x:=⟨⟨w1,hB⟩,rfl⟩));clear hB))
 all_goals
  go_ret
  exact aB.mk (by unfold Hid at *;simp[St.ok, *]) (hBw.trans (g.h.mono hBw.size))
theorem Fp (s:St)(w:World):Calls Tryz.prog 24 #[jF s] w (aB s.ok w):=by
 obtain⟨W,hW⟩:=aG (w.alloc (.cells #[.int .i64 s.dB,.int .i64 s.dK,.int .i64 s.di,.int .i64 s.dE,.int .i64 s.gK,.int .i64 s.gJ,.int .i64 s.wlo,.int .i64 s.whi] 40))
 obtain⟨aJ,f_,iC⟩:=boxed hW
 have hBw:Below w.heap.size w W:=f_
 obtain⟨qK,jQ,jR⟩:=ah aJ
 obtain⟨eG,eH,fP,fQ,gV,gW,gX,gY⟩:=rc8 aJ
 clear jQ jR aJ
 have yL:w.heap.size<=w.heap.size:=by omega
 clear f_ iC
 have hg:=az W
 go_enter Tryz.func24,Tryz.ntmps24
 go_wp2_with (go_at_call 74;refine ax (oG _ _ _ _ _) ?_;rintro e w1 ⟨(_|_),rfl,ht,hB⟩ <;> ((first|(obtain⟨g,rfl⟩:=g.next hB)|(obtain⟨g,rfl⟩:∃g:Grow W,w1=g.x:=⟨⟨w1,hB⟩,rfl⟩));clear hB))
 all_goals
  go_ret
  exact aB.mk (by unfold Hid at *;simp[St.ok, *]) (hBw.trans (g.h.mono hBw.size))
theorem ahu (p:Pt)(w:World):Calls Tryz.prog 124 #[nR p] w (aB p.ok w):=by
 obtain⟨W,hW⟩:=aG (w.alloc (.cells #[.int .i64 p.g,.int .i64 p.y,.int .i64 p.t,.int .i64 p.w] 29))
 obtain⟨aJ,f_,iC⟩:=boxed hW
 have hBw:Below w.heap.size w W:=f_
 obtain⟨qK,jQ,jR⟩:=ah aJ
 obtain⟨eG,eH,fP,fQ⟩:=pX aJ
 clear jQ jR aJ
 have yL:w.heap.size<=w.heap.size:=by omega
 clear f_ iC
 have hg:=az W
 go_enter Tryz.func124,Tryz.ntmps124
 go_wp2_with (go_at_call 22;refine ax (TP _ _ _ _) ?_;rintro e w1 ⟨(_|_),rfl,ht,rfl⟩)
 all_goals
  go_ret
  exact aB.mk (by unfold Hid at *;simp[Pt.ok, *]) hBw
theorem Fh (p:Pt)(w:World):Calls Tryz.prog 28 #[nR p] w (aB p.ok w):=by
 obtain⟨W,hW⟩:=aG (w.alloc (.cells #[.int .i64 p.g,.int .i64 p.y,.int .i64 p.t,.int .i64 p.w] 29))
 obtain⟨aJ,f_,iC⟩:=boxed hW
 have hBw:Below w.heap.size w W:=f_
 obtain⟨qK,jQ,jR⟩:=ah aJ
 obtain⟨eG,eH,fP,fQ⟩:=pX aJ
 clear jQ jR aJ
 have yL:w.heap.size<=w.heap.size:=by omega
 clear f_ iC
 have hg:=az W
 go_enter Tryz.func28,Tryz.ntmps28
 go_wp2_with (go_at_call 73;refine ax (jv _ _ _ _) ?_;rintro e w1 ⟨(_|_),rfl,ht,rfl⟩)
 all_goals
  go_ret
  exact aB.mk (by unfold Hid at *;simp[Pt.ok, *]) hBw
