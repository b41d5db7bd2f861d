/- Walks. -/
import Derived.Test.YtkjdidieiioijaaGreatRows
import Derived.WalkSpells
import Derived.WalkLawsBesides
import Derived.Lib.Hide
import Derived.Laws.StructEq
import Derived.Laws.EntriesVeiled
import Derived.Test.YtkjdidieiioijaaGreatK43
import Derived.Test.YtkjdidieiioijaaGreatK44
set_option linter.all false
set_option maxRecDepth 100000
set_option maxHeartbeats 16000000
namespace Go.Proofs.YtkjdidieiioijaaGreat.S
open Go.RowKit Go.Sd
theorem bP {a b:Bool}(h:a=b):Ending.returned (.bool a)=.returned (.bool b):=by rw[h]
theorem NP {k:IntKind}{a b:Int}(h:a=b):Ending.returned (.int k a)=.returned (.int k b):=by rw[h]
theorem agx (rows:List Sea.Row)(fill:Int)(k:Nat)(h:(Sea.rowAt rows k).fill<=fill):Sea.Hg rows fill (k+1)=Sea.rowAt rows k:=by
 rw[Sea.Hg,if_pos h]
theorem ana (rows:List Sea.Row)(fill:Int)(k:Nat)(h:fill<(Sea.rowAt rows k).fill):Sea.Hg rows fill (k+1)=Sea.Hg rows fill k:=by
 rw[Sea.Hg,if_neg (by omega)]
theorem Sv {W:World}{dv:Value}{s:Sea.S}{k:Nat}(h:qB W dv s.days)(hk:k<s.days.length) :
    ∃b off cap,dv=.slice (some ⟨b,off,none⟩) s.days.length cap/\b<W.heap.size/\s.days.length<=9223372036854775807/\sG W b (off+k*8) (Sea.aP s.days k):=by
 obtain⟨a,cap,rfl,hm,hc⟩:=h
 obtain⟨b,off,rfl,hlt,hk'⟩:=hc (by omega)
 unfold maxLen at hm
 exact⟨b,off,cap,rfl,hlt,by omega,hk' k hk⟩
theorem Ve {x y:Int}(hx : -100<=x/\x<=100)(hy:0<=y/\y<=1000000) : -100000000<=x*y/\x*y<=100000000:=by
 obtain⟨h1,h2⟩:=hx
 obtain⟨h3,h4⟩:=hy
 constructor
 . have:(-100)*y<=x*y:=Int.mul_le_mul_of_nonneg_right h1 h3
   omega
 . have:x*y<=100*y:=Int.mul_le_mul_of_nonneg_right h2 h3
   omega
theorem Qn {W:World}{v:Value}{xs:List Int}(h:bK W v xs)(hn:0<xs.length) :
    ∃b off cap,v=.slice (some ⟨b,off,none⟩) xs.length cap/\b<W.heap.size/\xs.length<=9223372036854775807/\∀k,k<xs.length->W.cell? ⟨b,off+k,none⟩=some (.int .i64 (Sea.at0 xs k)):=by
 obtain⟨a,cap,rfl,hm,hc⟩:=h
 obtain⟨b,off,rfl,hlt,hk'⟩:=hc hn
 unfold maxLen at hm
 exact⟨b,off,cap,rfl,hlt,by omega,hk'⟩
theorem ad3 {s:Sea.S}{k:Nat}{fill aY x:Int}(h:s.rule k fill aY x=1)(hg:0<=(Sea.aP s.days k).dB)(hg':(Sea.aP s.days k).dK<=s.space):0<=fill+aY+x/\fill+aY+x<=s.space:=by
 unfold Sea.S.rule at h
 by_cases h1:(Sea.aP s.days k).offer<x;· rw[if_pos h1] at h;omega
 rw[if_neg h1] at h
 by_cases h2:(Sea.aP s.days k).take < -x;· rw[if_pos h2] at h;omega
 rw[if_neg h2] at h
 by_cases h3:(s.lim fill).iq<aY+x;· rw[if_pos h3] at h;omega
 rw[if_neg h3] at h
 by_cases h4:(s.lim fill).out < -aY - x;· rw[if_pos h4] at h;omega
 rw[if_neg h4] at h
 by_cases h5:Sea.inB (fill+aY+x) (Sea.aP s.days k).dB (Sea.aP s.days k).dK=false;· rw[if_pos h5] at h;omega
 have:=Sea.eP.1 (by simpa using h5:Sea.inB (fill+aY+x) (Sea.aP s.days k).dB (Sea.aP s.days k).dK=true)
 omega
theorem aan {s:Sea.S}(ok:Sea.Ok s){d:Nat}(hd:d<s.days.length){x:Int}(hx : -100<=x/\x<=100) : -100000000<=s.cost d x/\s.cost d x<=100000000:=by
 have hb:=ok.days d hd
 unfold Sea.S.cost
 split
 . exact Ve hx ⟨by omega,by omega⟩
 . exact Ve hx ⟨by omega,by omega⟩
theorem ah8 {a b:List Int}(hl:a.length=b.length)(h:∀i,i<a.length->Sea.at0 a i=Sea.at0 b i):a=b:=by
 apply List.ext_getElem hl
 intro i h1 h2
 have:=h i h1
 simpa [Sea.at0,h1,h2] using this
theorem YG {a:List Int}{i:Nat}(h:i<a.length):Sea.at0 a i=a[i]:=by simp[Sea.at0,h]
theorem akl (av bv:Value)(a b:List Int)(w:World)(ha:bK w av a)(hb:bK w bv b) :
    Calls Tryz.prog 19 #[av,bv] w (dI (.bool (decide (a=b))) w):=by
 obtain⟨aa,ac,rfl,ham,hac⟩:=ha
 obtain⟨ba,bc,rfl,hbm,hbc⟩:=hb
 unfold maxLen at ham hbm
 by_cases hlen:a.length=b.length
 . have Hl:=ai hlen
   have hl1:a.length<=b.length:=by omega
   have hl2:b.length<=a.length:=by omega
   have hbe:((a.length:Int) == (b.length:Int))=true:=by rw[hlen];simp
   have hbn:((a.length:Int) != (b.length:Int))=false:=by rw[hlen];simp
   clear hlen
   go_enter Tryz.func19,Tryz.ntmps19
   go_wp2
   go_loopw [5] (fun i wr=>∃k:Nat,k<=a.length/\i=.int .i64 k/\Hid (∀j,j<k->Sea.at0 a j=Sea.at0 b j)/\∃g:Grow w,wr=g.x) (fun i _=>a.length - (intOf i).toNat)
   case atStart=>exact⟨0,by omega,rfl,(fun j h=>by omega:∀j,j<0->Sea.at0 a j=Sea.at0 b j),Grow.self w,rfl⟩
   case round =>
    obtain⟨k,hk,rfl,hH,g,rfl⟩:=hrel
    by_cases hlt:k<a.length
    . obtain⟨ab,ao,rfl,hal,hak⟩:=hac (by omega)
      obtain⟨bb,bo,rfl,hbl,hbk⟩:=hbc (by omega)
      have ca:=hak k hlt
      have cb:=hbk k (by omega)
      clear hak hbk hac hbc
      have hlt':(k:Int)<a.length:=by omega
      have hlt2:(k:Int)<b.length:=by omega
      have hg:=az w
      go_wp2
      have hgg:∀(h:Grow g.x) (b o:Nat),b<w.heap.size->h.x.cell? ⟨b,o,none⟩=w.cell? ⟨b,o,none⟩:=fun h b o hb=>(az g.x h b o (bM hb g.size)).trans (az w g b o hb)
      refine aH (by kernel_rfl) (by kernel_rfl) ?_
      repeat (go_big_quiet_step (fail))
      refine wpQuiet_nil ?_
      rintro _ ⟨gx,rfl⟩
      clear hgg
      obtain⟨g1,hg1⟩:=g.next gx.h
      rw[hg1]
      clear hg1 gx
      go_wp2
      . go_ret
        refine⟨bP (decide_eq_false fun h=>?_).symm,g1.h⟩
        subst h
        simp_all
      . have h0:=‹(Sea.at0 a k != Sea.at0 b k)=false›
        have hH':Hid (∀j,j<k+1->Sea.at0 a j=Sea.at0 b j):=fun j hj=>by
         rcases Nat.lt_succ_iff_lt_or_eq.1 hj with h|rfl
         . exact hH.out j h
         . simpa using h0
        exact⟨⟨k+1,by omega,by go_num,hH',g1,rfl⟩,by simp[intOf];omega⟩
    . go_wp2
      go_ret
      refine⟨bP ?_,g.h⟩
      exact(decide_eq_true (ah8 Hl.out fun i hi=>hH.out i (by omega))).symm
 . go_enter Tryz.func19,Tryz.ntmps19
   go_wp2
   go_ret
   exact⟨bP (decide_eq_false fun h=>hlen (by rw[h])).symm,Below.refl _ _⟩
structure Kc (w w':World):Prop where
 size:w.heap.size<=w'.heap.size
 cell:∀b o v,w.cell? ⟨b,o,none⟩=some v->w'.cell? ⟨b,o,none⟩=some v
theorem Kc.of {w w':World}(h:Below w.heap.size w w'):Kc w w':=⟨h.size,fun _ _ _ hv=>ae h hv⟩
theorem yN.kc {w w':World}{v:Value}{xs:List Sea.Row}(h:yN w v xs)(hb:Kc w w'):yN w' v xs:=by
 obtain⟨a,cap,rfl,hm,hc⟩:=h
 refine⟨a,cap,rfl,hm,fun h0=>?_⟩
 obtain⟨b,off,rfl,hlt,hk⟩:=hc h0
 exact⟨b,off,rfl,bM hlt hb.size,fun k hk'=>⟨hb.cell _ _ _ (hk k hk').1,hb.cell _ _ _ (hk k hk').2.1,hb.cell _ _ _ (hk k hk').2.2⟩⟩
theorem qB.kc {w w':World}{v:Value}{xs:List Sea.Day}(h:qB w v xs)(hb:Kc w w'):qB w' v xs:=by
 obtain⟨a,cap,rfl,hm,hc⟩:=h
 refine⟨a,cap,rfl,hm,fun h0=>?_⟩
 obtain⟨b,off,rfl,hlt,hk⟩:=hc h0
 refine⟨b,off,rfl,bM hlt hb.size,fun k hk'=>?_⟩
 obtain⟨c0,c1,c2,c3,c4,c5,c6,c7⟩:=hk k hk'
 exact⟨hb.cell _ _ _ c0,hb.cell _ _ _ c1,hb.cell _ _ _ c2,hb.cell _ _ _ c3,hb.cell _ _ _ c4,hb.cell _ _ _ c5,hb.cell _ _ _ c6,hb.cell _ _ _ c7⟩
theorem bK.kc {w w':World}{v:Value}{xs:List Int}(h:bK w v xs)(hb:Kc w w'):bK w' v xs:=by
 obtain⟨a,cap,rfl,hm,hc⟩:=h
 refine⟨a,cap,rfl,hm,fun h0=>?_⟩
 obtain⟨b,off,rfl,hlt,hk⟩:=hc h0
 exact⟨b,off,rfl,bM hlt hb.size,fun k hk'=>hb.cell _ _ _ (hk k hk')⟩
def dH (w:World)(lv mv:Value)(s:Sea.S):Prop :=
 ∃b rv dv,lv=.pointer (some ⟨b,0,none⟩) /\
  (w.cell? ⟨b,0,none⟩=some (.int .i64 s.space)/\w.cell? ⟨b,1,none⟩=some (.int .i64 s.start)/\w.cell? ⟨b,2,none⟩=some (.int .i64 s.UE) /\
   w.cell? ⟨b,3,none⟩=some (.int .i64 s.UC)/\w.cell? ⟨b,4,none⟩=some rv/\w.cell? ⟨b,5,none⟩=some dv/\w.cell? ⟨b,6,none⟩=some mv) /\
  b<w.heap.size/\yN w rv s.rows/\qB w dv s.days
theorem dH.kc {w w':World}{lv mv:Value}{s:Sea.S}(h:dH w lv mv s)(hb:Kc w w'):dH w' lv mv s:=by
 obtain⟨b,rv,dv,rfl,⟨c0,c1,c2,c3,c4,c5,c6⟩,hlt,hr,hd⟩:=h
 exact⟨b,rv,dv,rfl,⟨hb.cell _ _ _ c0,hb.cell _ _ _ c1,hb.cell _ _ _ c2,hb.cell _ _ _ c3,hb.cell _ _ _ c4,hb.cell _ _ _ c5,hb.cell _ _ _ c6⟩,bM hlt hb.size,hr.kc hb,hd.kc hb⟩
theorem dH.mono {w w':World}{lv mv:Value}{s:Sea.S}(h:dH w lv mv s)(hb:Below w.heap.size w w'):dH w' lv mv s:=h.kc (.of hb)
abbrev lH (lv:Value)(day:Nat)(fill aY u:Int):Value:=.agg #[lv,.int .i64 day,.int .i64 fill,.int .i64 aY,.int .i64 u]
abbrev zk (lv:Value)(day:Nat)(fill aY u:Int):Obj:=.cells #[lv,.int .i64 day,.int .i64 fill,.int .i64 aY,.int .i64 u] 172
theorem yz {w W:World}{lv:Value}{day:Nat}{fill aY u:Int}(h:w.alloc (zk lv day fill aY u)=W) :
    w.heap.size<W.heap.size/\Below w.heap.size w W /\
    W.cell? ⟨w.heap.size,0,none⟩=some lv/\W.cell? ⟨w.heap.size,1,none⟩=some (.int .i64 day) /\
    W.cell? ⟨w.heap.size,2,none⟩=some (.int .i64 fill)/\W.cell? ⟨w.heap.size,3,none⟩=some (.int .i64 aY)/\W.cell? ⟨w.heap.size,4,none⟩=some (.int .i64 u):=by
 subst h
 refine⟨by simp,(Below.refl _ _).alloc (Nat.le_refl _) _,?_,?_,?_,?_,?_⟩ <;> simp[zk]
theorem jv (a b c:Int)(w:World) :
    Calls Tryz.prog 110 #[.int .i64 a,.int .i64 b,.int .i64 c] w fun e w'=>e=.returned (.bool (Sea.inB a b c))/\w=w':=by
 by_cases h:b<=a
 . go_enter Tryz.func110,Tryz.ntmps110
   go_wp2
   go_ret
   exact⟨by simp[Sea.inB,h],rfl⟩
 . go_enter Tryz.func110,Tryz.ntmps110
   go_wp2
   go_ret
   exact⟨by simp[Sea.inB];intro _;omega,rfl⟩
theorem l_ (lv:Value)(k:Nat)(fill aY u:Int)(w:World)(b1:0<=fill/\fill<=100)(b2 : -100<=aY/\aY<=100)(b3 : -100<=u/\u<=100) :
    Calls Tryz.prog 65 #[lH lv k fill aY u] w (dI (.int .i64 (fill+aY+u)) w):=by
 go_enter Tryz.func65,Tryz.ntmps65
 go_wp2
 go_ret
 exact⟨rfl,(Below.refl _ _).alloc (Nat.le_refl _) _⟩
theorem tC {w W:World}{lv mv:Value}{s:Sea.S}{k:Nat}{fill aY u:Int}(h:w.alloc (zk lv k fill aY u)=W)(hl:dH w lv mv s)(hk:k<s.days.length) :
    ∃lb rv b off cap,lv=.pointer (some ⟨lb,0,none⟩)/\lb<W.heap.size/\b<W.heap.size/\w.heap.size<W.heap.size/\s.days.length<=9223372036854775807/\(k:Int)<(s.days.length:Int) /\
     dH W (.pointer (some ⟨lb,0,none⟩)) mv s/\Below w.heap.size w W /\
     (W.cell? ⟨w.heap.size,0,none⟩=some (.pointer (some ⟨lb,0,none⟩))/\W.cell? ⟨w.heap.size,1,none⟩=some (.int .i64 k) /\
      W.cell? ⟨w.heap.size,2,none⟩=some (.int .i64 fill)/\W.cell? ⟨w.heap.size,3,none⟩=some (.int .i64 aY)/\W.cell? ⟨w.heap.size,4,none⟩=some (.int .i64 u)) /\
     (W.cell? ⟨lb,0,none⟩=some (.int .i64 s.space)/\W.cell? ⟨lb,1,none⟩=some (.int .i64 s.start)/\W.cell? ⟨lb,2,none⟩=some (.int .i64 s.UE) /\
     W.cell? ⟨lb,3,none⟩=some (.int .i64 s.UC)/\W.cell? ⟨lb,4,none⟩=some rv/\W.cell? ⟨lb,5,none⟩=some (.slice (some ⟨b,off,none⟩) s.days.length cap)) /\
     sG W b (off+k*8) (Sea.aP s.days k):=by
 obtain⟨hsz,hB,q⟩:=yz h
 have hl2:=hl.mono hB
 obtain⟨lb,rv,dv,rfl,⟨l0,l1,l2,l3,l4,l5,l6⟩,hlb,hr,hd⟩:=hl
 obtain⟨b,off,cap,rfl,hlt,hm,c⟩:=Sv hd hk
 exact⟨lb,rv,b,off,cap,rfl,bM hlb hB.size,bM hlt hB.size,hsz,hm,by omega,hl2,hB,q,
  ⟨ae hB l0,ae hB l1,ae hB l2,ae hB l3,ae hB l4,ae hB l5⟩,sG.mono c hB⟩
theorem agT (lv mv:Value)(s:Sea.S)(k:Nat)(fill aY u:Int)(w:World)(hl:dH w lv mv s)(hk:k<s.days.length) :
    Calls Tryz.prog 190 #[lH lv k fill aY u] w (dI (.bool (decide ((Sea.aP s.days k).offer<u))) w):=by
 go_enter Tryz.func190,Tryz.ntmps190
 go_wp2
 generalize hW:w.alloc (zk _ k fill aY u)=W
 obtain⟨lb,rv,b,off,cap,rfl,hlb,hlt,hsz,hm,hk',hl2,hBw,⟨q0,q1,q2,q3,q4⟩,⟨l0,l1,l2,l3,l4,l5⟩,⟨c0,c1,c2,c3,c4,c5,c6,c7⟩⟩:=tC hW hl hk
 clear hW
 go_quiet (fail)
 go_wp2
 go_ret
 exact⟨rfl,below_drewN hBw _⟩
theorem adM (lv mv:Value)(s:Sea.S)(k:Nat)(fill aY u:Int)(w:World)(hl:dH w lv mv s)(hk:k<s.days.length)(b3 : -100<=u/\u<=100) :
    Calls Tryz.prog 191 #[lH lv k fill aY u] w (dI (.bool (decide ((Sea.aP s.days k).take < -u))) w):=by
 go_enter Tryz.func191,Tryz.ntmps191
 go_wp2
 generalize hW:w.alloc (zk _ k fill aY u)=W
 obtain⟨lb,rv,b,off,cap,rfl,hlb,hlt,hsz,hm,hk',hl2,hBw,⟨q0,q1,q2,q3,q4⟩,⟨l0,l1,l2,l3,l4,l5⟩,⟨c0,c1,c2,c3,c4,c5,c6,c7⟩⟩:=tC hW hl hk
 clear hW
 go_quiet (fail)
 go_wp2
 go_ret
 exact⟨rfl,below_drewN hBw _⟩
abbrev adZ (r:Sea.Row):Obj:=.cells #[.int .i64 r.fill,.int .i64 r.iq,.int .i64 r.out] 180
theorem aqJ {w:World}{n:Nat}{a b c:Value}{e:TypeId}(h:w.heap[n]? = some (.cells #[a,b,c] e))(a' b' c':Value) :
    (((w.setCell ⟨n,0,none⟩ a').setCell ⟨n,1,none⟩ b').setCell ⟨n,2,none⟩ c').heap[n]? = some (.cells #[a',b',c'] e):=by
 simp only[World.setCell,Array.getElem?_modify,if_true,h]
 rfl
theorem QB (lv mv:Value)(s:Sea.S)(fill:Int)(w:World)(hl:dH w lv mv s)(hn:0<s.rows.length)(h0:(Sea.rowAt s.rows 0).fill<=fill) :
    Calls Tryz.prog 206 #[lv,.int .i64 fill] w (dI (aol (s.lim fill)) w):=by
 obtain⟨lb,rv,dv,rfl,⟨l0,l1,l2,l3,l4,l5,l6⟩,hlb,⟨ra,Ce,rfl,hrm,hrk⟩,hd⟩:=hl
 obtain⟨b,off,rfl,hlt,hk⟩:=hrk hn
 clear hrk hd
 obtain⟨c0,c1,c2⟩:=hk 0 hn
 unfold maxLen at hrm
 rw[Nat.zero_mul,Nat.add_zero] at c0 c1 c2
 go_enter Tryz.func206,Tryz.ntmps206
 go_wp2
 go_loopw [21] (fun i wr=>∃k:Nat,k<=s.rows.length/\i=.int .i64 k/\Hid (∃r,r=Sea.Hg s.rows fill k/\wr.heap[w.heap.size+1]? = some (adZ r)/\wr.heap[w.heap.size]? = some (adZ ⟨0,0,0⟩)/\Below w.heap.size w wr)) (fun i _=>s.rows.length - (intOf i).toNat)
 case atStart =>
  exact⟨0,by omega,rfl,_,rfl,by have:=World.alloc_heap_new (w.alloc (adZ ⟨0,0,0⟩)) (adZ (Sea.Hg s.rows fill 0));rwa [World.size_alloc] at this,
   (Below.heap_alloc _ _ _ (by simp)).trans (World.alloc_heap_new w _),((Below.refl _ _).alloc (Nat.le_refl _) _).alloc (by simp) _⟩
 case round =>
  obtain⟨k,hkn,rfl,hH⟩:=hrel
  obtain⟨r,hr,h5,h4,hB⟩:=hH.out
  clear hH
  obtain⟨z5,d5,f5⟩:=ah h5
  obtain⟨z4,d4,f4⟩:=ah h4
  have e0:=d5 0
  have e1:=d5 1
  have e2:=d5 2
  have e3:=d4 0
  have e4:=d4 1
  have e5:=d4 2
  simp only[adZ,List.getElem?_toArray,List.getElem?_cons_zero,List.getElem?_cons_succ] at e0 e1 e2 e3 e4 e5
  replace hr:=ai hr
  clear d4 d5
  by_cases hkl:k<s.rows.length
  . obtain⟨c0,c1,c2⟩:=yt.mono (hk k hkl) hB
    have hlt':(k:Int)<(s.rows.length:Int):=by omega
    have awP:b<wr.heap.size:=bM hlt hB.size
    by_cases hf:(Sea.rowAt s.rows k).fill<=fill
    . go_wp2
      have h5':=aqJ h5 (.int .i64 (Sea.rowAt s.rows k).fill) (.int .i64 (Sea.rowAt s.rows k).iq) (.int .i64 (Sea.rowAt s.rows k).out)
      have hB':=((hB.setCell (p:=⟨w.heap.size+1,0,none⟩) (by simp) (.int .i64 (Sea.rowAt s.rows k).fill)).setCell (p:=⟨w.heap.size+1,1,none⟩) (by simp) (.int .i64 (Sea.rowAt s.rows k).iq)).setCell (p:=⟨w.heap.size+1,2,none⟩) (by simp) (.int .i64 (Sea.rowAt s.rows k).out)
      refine⟨⟨k+1,by omega,by go_num,⟨_,(agx s.rows fill k hf).symm,?_,?_,hB'.alloc hB'.size _⟩⟩,by simp[intOf];omega⟩
      . exact(Below.heap_alloc _ _ _ (aF h5')).trans h5'
      . exact(Below.heap_alloc _ _ _ (by have:=hB'.size;have:=(aF h5');omega)).trans
         (((Below.heap_setCell _ _ _ _ (by simp)).trans ((Below.heap_setCell _ _ _ _ (by simp)).trans (Below.heap_setCell _ _ _ _ (by simp)))).trans h4)
    . go_wp2
      exact⟨⟨k+1,by omega,by go_num,⟨r,by rw[ana s.rows fill k (by omega)];exact hr.out,(Below.heap_alloc _ _ _ z5).trans h5,(Below.heap_alloc _ _ _ z4).trans h4,hB.alloc hB.size _⟩⟩,by simp[intOf];omega⟩
  . have hkn':¬ (k:Int)<(s.rows.length:Int):=by omega
    have hke:k=s.rows.length:=by omega
    replace hke:=ai hke
    go_wp2
    have hB':=((hB.setCell (p:=⟨w.heap.size,0,none⟩) (by simp) (.int .i64 r.fill)).setCell (p:=⟨w.heap.size,1,none⟩) (by simp) (.int .i64 r.iq)).setCell (p:=⟨w.heap.size,2,none⟩) (by simp) (.int .i64 r.out)
    obtain⟨-,d,-⟩:=ah (aqJ h4 (.int .i64 r.fill) (.int .i64 r.iq) (.int .i64 r.out))
    have g0:=d 0
    have g1:=d 1
    have g2:=d 2
    simp only[adZ,List.getElem?_toArray,List.getElem?_cons_zero,List.getElem?_cons_succ] at g0 g1 g2
    clear d
    generalize ((wr.setCell ⟨w.heap.size,0,none⟩ (.int .i64 r.fill)).setCell ⟨w.heap.size,1,none⟩ (.int .i64 r.iq)).setCell ⟨w.heap.size,2,none⟩ (.int .i64 r.out)=W' at g0 g1 g2 hB'
    exact bodyPost_ret (v:=aol r) (by simp[results,Tryz.results206,go_sem,aol,g0,g1,g2]) rfl ⟨by rw[hr.out,hke.out];rfl,hB'⟩
theorem TV (a b c:Value)(w:World):(Instr.field 180 (.agg #[a,b,c]) 1).run Tryz.prog w=.ok b w/\(Instr.field 180 (.agg #[a,b,c]) 2).run Tryz.prog w=.ok c w:=⟨by kernel_rfl,by kernel_rfl⟩
theorem adG (lv mv:Value)(s:Sea.S)(k:Nat)(fill aY u:Int)(w:World)(hl:dH w lv mv s)(hk:k<s.days.length)(ok:Sea.Ok s)(b1:0<=fill/\fill<=100)(b2 : -100<=aY/\aY<=100)(b3 : -100<=u/\u<=100) :
    Calls Tryz.prog 192 #[lH lv k fill aY u] w (dI (.bool (decide ((s.lim fill).iq<aY+u))) w):=by
 go_enter Tryz.func192,Tryz.ntmps192
 go_wp2
 generalize hW:w.alloc (zk _ k fill aY u)=W
 obtain⟨lb,rv,b,off,cap,rfl,hlb,hlt,hsz,hm,hk',hl2,hBw,⟨q0,q1,q2,q3,q4⟩,⟨l0,l1,l2,l3,l4,l5⟩,⟨c0,c1,c2,c3,c4,c5,c6,c7⟩⟩:=tC hW hl hk
 clear hW
 have hg:=az W
 have hfd:=TV (.int .i64 (s.lim fill).fill) (.int .i64 (s.lim fill).iq) (.int .i64 (s.lim fill).out)
 have hf1:=fun w=>(hfd w).1
 have hf2:=fun w=>(hfd w).2
 clear hfd
 refine aH (by kernel_rfl) (by kernel_rfl) ?_
 repeat (go_big_quiet_step ((first|(go_at_call 206;exact Calls.grow (v:=.agg #[.int .i64 (s.lim fill).fill,.int .i64 (s.lim fill).iq,.int .i64 (s.lim fill).out]) (QB _ mv s fill _ (hl2.mono (Grow.h _)) ok.alm.1 (by have:=ok.row0;omega))))))
 refine wpQuiet_nil ?_
 rintro _ ⟨g,rfl⟩
 go_wp2
 go_ret
 exact⟨rfl,hBw.trans (g.h.mono hBw.size)⟩
theorem ag0 (lv mv:Value)(s:Sea.S)(k:Nat)(fill aY u:Int)(w:World)(hl:dH w lv mv s)(hk:k<s.days.length)(ok:Sea.Ok s)(b1:0<=fill/\fill<=100)(b2 : -100<=aY/\aY<=100)(b3 : -100<=u/\u<=100) :
    Calls Tryz.prog 193 #[lH lv k fill aY u] w (dI (.bool (decide ((s.lim fill).out < -aY - u))) w):=by
 go_enter Tryz.func193,Tryz.ntmps193
 go_wp2
 generalize hW:w.alloc (zk _ k fill aY u)=W
 obtain⟨lb,rv,b,off,cap,rfl,hlb,hlt,hsz,hm,hk',hl2,hBw,⟨q0,q1,q2,q3,q4⟩,⟨l0,l1,l2,l3,l4,l5⟩,⟨c0,c1,c2,c3,c4,c5,c6,c7⟩⟩:=tC hW hl hk
 clear hW
 have hg:=az W
 have hfd:=TV (.int .i64 (s.lim fill).fill) (.int .i64 (s.lim fill).iq) (.int .i64 (s.lim fill).out)
 have hf1:=fun w=>(hfd w).1
 have hf2:=fun w=>(hfd w).2
 clear hfd
 refine aH (by kernel_rfl) (by kernel_rfl) ?_
 repeat (go_big_quiet_step ((first|(go_at_call 206;exact Calls.grow (v:=.agg #[.int .i64 (s.lim fill).fill,.int .i64 (s.lim fill).iq,.int .i64 (s.lim fill).out]) (QB _ mv s fill _ (hl2.mono (Grow.h _)) ok.alm.1 (by have:=ok.row0;omega))))))
 refine wpQuiet_nil ?_
 rintro _ ⟨g,rfl⟩
 go_wp2
 go_ret
 exact⟨rfl,hBw.trans (g.h.mono hBw.size)⟩
theorem agZ (lv mv:Value)(s:Sea.S)(k:Nat)(fill aY u:Int)(w:World)(hl:dH w lv mv s)(hk:k<s.days.length)(b1:0<=fill/\fill<=100)(b2 : -100<=aY/\aY<=100)(b3 : -100<=u/\u<=100) :
    Calls Tryz.prog 194 #[lH lv k fill aY u] w (dI (.bool (!Sea.inB (fill+aY+u) (Sea.aP s.days k).dB (Sea.aP s.days k).dK)) w):=by
 go_enter Tryz.func194,Tryz.ntmps194
 go_wp2
 generalize hW:w.alloc (zk _ k fill aY u)=W
 obtain⟨lb,rv,b,off,cap,rfl,hlb,hlt,hsz,hm,hk',hl2,hBw,⟨q0,q1,q2,q3,q4⟩,⟨l0,l1,l2,l3,l4,l5⟩,⟨c0,c1,c2,c3,c4,c5,c6,c7⟩⟩:=tC hW hl hk
 clear hW
 refine iy h_ (va:=[⟨12,3,35,#[.int .i64 0,.int .i64 0],13,.tmp 15⟩]) (by kernel_rfl) (by kernel_rfl) ?_ ?_ (by simp) (fun T f hT hf hcl=>?_)
 . intro p hp w
   simp only[List.mem_cons,List.not_mem_nil,or_false] at hp
   rcases hp with rfl <;> go_simp
 . intro p hp
   simp only[List.mem_cons,List.not_mem_nil,or_false] at hp
   rcases hp with rfl <;> kernel_rfl
 have hg:∀(g:T) (b o:Nat),b<W.heap.size->(f g).cell? ⟨b,o,none⟩=W.cell? ⟨b,o,none⟩:=fun g=>dR (hf g)
 simp only[fM,List.zipIdx_cons,List.zipIdx_nil,List.map_cons,List.map_nil,fG,List.any_cons,List.any_nil,Nat.reduceAdd,Nat.reduceBEq,Bool.or_false,Bool.false_or,Bool.or_self,Bool.false_eq_true,if_false,if_true,Nat.zero_add,BEq.rfl,Bool.or_true,Bool.true_or]
 simp only[Go.Sd.blank]
 repeat (go_big_quiet_step (fail))
 refine wpQuiet_nil ?_
 refine⟨?_,?_⟩
 . intro p hp
   simp only[List.mem_cons,List.not_mem_nil,or_false] at hp
   rcases hp with rfl <;> (constructor <;> simp[go_sem,Value.cells,Value.oneCell'])
 intro ns w' hB hv
 obtain⟨n1,rfl,hn1,hl1,hc1,hf1⟩:=qA hv
 clear hv hf hcl hg
 simp only[iQ,Act.put,List.setIfInBounds_toArray,List.set_cons_zero,List.set_cons_succ]
 simp[go_sem] at hc1
 have hB':Below w.heap.size w w':=hBw.trans (hB.mono hBw.size)
 have hcc:=dR hB
 have hg:=az w'
 have hsw:=hB.size
 have awV:w.heap.size<w'.heap.size:=by omega
 have awW:lb<w'.heap.size:=by omega
 go_wp2
 refine aH (by kernel_rfl) (by kernel_rfl) ?_
 repeat (go_big_quiet_step ((first|(go_at_call 65;exact Calls.grow (l_ _ _ _ _ _ _ b1 b2 b3))|(go_at_call 110;exact Calls.nM (jv _ _ _ _)))))
 refine wpQuiet_nil ?_
 rintro _ ⟨g,rfl⟩
 go_wp2
 go_ret
 exact⟨rfl,hB'.trans (g.h.mono hB'.size)⟩
theorem ajZ (lv mv:Value)(s:Sea.S)(k:Nat)(fill aY u:Int)(w:World)(hl:dH w lv mv s)(hk:k<s.days.length)(b1:0<=fill/\fill<=100)(b2 : -100<=aY/\aY<=100)(b3 : -100<=u/\u<=100) :
    Calls Tryz.prog 195 #[lH lv k fill aY u] w (dI (.bool (decide ((k:Int)=(s.days.length:Int) - 1) && !Sea.inB (fill+aY+u) s.UE s.UC)) w):=by
 go_enter Tryz.func195,Tryz.ntmps195
 go_wp2
 generalize hW:w.alloc (zk _ k fill aY u)=W
 obtain⟨lb,rv,b,off,cap,rfl,hlb,hlt,hsz,hm,hk',hl2,hBw,⟨q0,q1,q2,q3,q4⟩,⟨l0,l1,l2,l3,l4,l5⟩,⟨c0,c1,c2,c3,c4,c5,c6,c7⟩⟩:=tC hW hl hk
 clear hW
 by_cases he:(k:Int)=(s.days.length:Int) - 1
 . have he':((k:Int) == (s.days.length:Int) - 1)=true:=by rw[he];simp
   replace he:=ai he
   have hg:=az W
   refine aH (by kernel_rfl) (by kernel_rfl) ?_
   repeat (go_big_quiet_step ((first|(go_at_call 65;exact Calls.grow (l_ _ _ _ _ _ _ b1 b2 b3))|(go_at_call 110;exact Calls.nM (jv _ _ _ _)))))
   refine wpQuiet_nil ?_
   rintro _ ⟨g,rfl⟩
   go_wp2
   go_ret
   exact⟨bP (by simp[he.out]),hBw.trans (g.h.mono hBw.size)⟩
 . have he':((k:Int) == (s.days.length:Int) - 1)=false:=by simp[he]
   replace he:=ai he
   have hg:=az W
   refine aH (by kernel_rfl) (by kernel_rfl) ?_
   repeat (go_big_quiet_step ((first|(go_at_call 65;exact Calls.grow (l_ _ _ _ _ _ _ b1 b2 b3))|(go_at_call 110;exact Calls.nM (jv _ _ _ _)))))
   refine wpQuiet_nil ?_
   rintro _ ⟨g,rfl⟩
   go_wp2
   go_ret
   exact⟨bP (by simp[he.out]),hBw.trans (g.h.mono hBw.size)⟩
theorem agU (lv mv:Value)(s:Sea.S)(k:Nat)(fill aY u:Int)(w:World)(hl:dH w lv mv s)(hk:k<s.days.length)(ok:Sea.Ok s)(b3 : -100<=u/\u<=100) :
    Calls Tryz.prog 118 #[lH lv k fill aY u] w (dI (.int .i64 (s.cost k u)) w):=by
 go_enter Tryz.func118,Tryz.ntmps118
 go_wp2
 generalize hW:w.alloc (zk _ k fill aY u)=W
 obtain⟨lb,rv,b,off,cap,rfl,hlb,hlt,hsz,hm,hk',hl2,hBw,⟨q0,q1,q2,q3,q4⟩,⟨l0,l1,l2,l3,l4,l5⟩,⟨c0,c1,c2,c3,c4,c5,c6,c7⟩⟩:=tC hW hl hk
 clear hW
 refine iy h_ (va:=[⟨11,3,182,#[.int .i64 0,.int .i64 0,.int .i64 0,.int .i64 0,.int .i64 0,.int .i64 0,.int .i64 0,.int .i64 0],12,.tmp 14⟩]) (by kernel_rfl) (by kernel_rfl) ?_ ?_ (by simp) (fun T f hT hf hcl=>?_)
 . intro p hp w
   simp only[List.mem_cons,List.not_mem_nil,or_false] at hp
   rcases hp with rfl <;> go_simp
 . intro p hp
   simp only[List.mem_cons,List.not_mem_nil,or_false] at hp
   rcases hp with rfl <;> kernel_rfl
 have hg:∀(g:T) (b o:Nat),b<W.heap.size->(f g).cell? ⟨b,o,none⟩=W.cell? ⟨b,o,none⟩:=fun g=>dR (hf g)
 simp only[fM,List.zipIdx_cons,List.zipIdx_nil,List.map_cons,List.map_nil,fG,List.any_cons,List.any_nil,Nat.reduceAdd,Nat.reduceBEq,Bool.or_false,Bool.false_or,Bool.or_self,Bool.false_eq_true,if_false,if_true,Nat.zero_add,BEq.rfl,Bool.or_true,Bool.true_or]
 simp only[Go.Sd.blank]
 repeat (go_big_quiet_step (fail))
 refine wpQuiet_nil ?_
 refine⟨?_,?_⟩
 . intro p hp
   simp only[List.mem_cons,List.not_mem_nil,or_false] at hp
   rcases hp with rfl <;> (constructor <;> simp[go_sem,Value.cells,Value.oneCell'])
 intro ns w' hB hv
 obtain⟨n1,rfl,hn1,hl1,hc1,hf1⟩:=qA hv
 clear hv hf hcl hg
 simp only[iQ,Act.put,List.setIfInBounds_toArray,List.set_cons_zero,List.set_cons_succ]
 simp[go_sem] at hc1
 have hB':Below w.heap.size w w':=hBw.trans (hB.mono hBw.size)
 have hcc:=dR hB
 have hb:=ok.days k (by omega)
 have p1:=Ve b3 ⟨hb.1,hb.2.1⟩
 have p2:=Ve b3 ⟨hb.2.2.1,hb.2.2.2.1⟩
 have p3:u≠0\/(u*(Sea.aP s.days k).buy=0/\u*(Sea.aP s.days k).sell=0):=by
  by_cases h:u=0
  . exact .inr ⟨by rw[h,Int.zero_mul],by rw[h,Int.zero_mul]⟩
  . exact .inl h
 rw[Int.mul_comm] at p1 p2
 simp only[Int.mul_comm u] at p1 p2 p3
 have P:=ai (And.intro p1 (And.intro p2 p3))
 clear p1 p2 p3 hb
 go_wp2
 all_goals
  go_ret
  refine⟨NP ?_,hB'⟩
  obtain⟨p1,p2,p3⟩:=P.out
  simp (disch:=omega) only [IntWalk.wrap64_in,Int.mul_neg]
  unfold Sea.S.cost
  simp only[Int.mul_comm u]
  split <;> omega
abbrev Un (o:Value):Value:=.agg #[.func (.func 190) #[o] #[],.func (.func 191) #[o] #[],.func (.func 192) #[o] #[],
 .func (.func 193) #[o] #[],.func (.func 194) #[o] #[],.func (.func 195) #[o] #[]]
theorem ajV (lv:Value)(k:Nat)(fill aY u:Int)(w:World) :
    Calls Tryz.prog 172 #[lH lv k fill aY u] w (dI (Un (lH lv k fill aY u)) w):=by
 go_enter Tryz.func172,Tryz.ntmps172
 go_wp2
 refine bodyPost_ret (v:=Un (lH lv k fill aY u)) (by simp[results,Tryz.results172,go_sem,Un,lH]) rfl ⟨rfl,?_⟩
 exact((Below.refl _ _).alloc (Nat.le_refl _) _).alloc (by simp) _
theorem r_ (a b c d e f:Value)(w:World):let I:=fun i:Int=>(Instr.index 267 (.agg #[a,b,c,d,e,f]) (.int .i64 i)).run Tryz.prog w
    I 0=.ok a w/\I 1=.ok b w/\I 2=.ok c w/\I 3=.ok d w/\I 4=.ok e w/\I 5=.ok f w:=⟨by kernel_rfl,by kernel_rfl,by kernel_rfl,by kernel_rfl,by kernel_rfl,by kernel_rfl⟩
def zL (s:Sea.S)(k:Nat)(fill aY u:Int):Bool:=decide (s.rule k fill aY u=1)
theorem agS (s:Sea.S)(k:Nat)(fill aY u:Int):zL s k fill aY u=(!decide ((Sea.aP s.days k).offer<u) && !decide ((Sea.aP s.days k).take < -u) && !decide ((s.lim fill).iq<aY+u) &&
    !decide ((s.lim fill).out < -aY - u) && !(!Sea.inB (fill+aY+u) (Sea.aP s.days k).dB (Sea.aP s.days k).dK) && !(decide ((k:Int)=(s.days.length:Int) - 1) && !Sea.inB (fill+aY+u) s.UE s.UC)):=by
 unfold zL Sea.S.rule
 by_cases h1:(Sea.aP s.days k).offer<u
 . simp[h1]
 by_cases h2:(Sea.aP s.days k).take < -u
 . simp[h1,h2]
 by_cases h3:(s.lim fill).iq<aY+u
 . simp[h1,h2,h3]
 by_cases h4:(s.lim fill).out < -aY - u
 . simp[h1,h2,h3,h4]
 cases h5:Sea.inB (fill+aY+u) (Sea.aP s.days k).dB (Sea.aP s.days k).dK
 . simp[h1,h2,h3,h4]
 by_cases h6:(k:Int)=(s.days.length:Int) - 1
 . cases h7:Sea.inB (fill+aY+u) s.UE s.UC <;> simp[h1,h2,h3,h4,h6]
 . simp[h1,h2,h3,h4,h6]
theorem I9 (lv mv:Value)(s:Sea.S)(k:Nat)(fill aY u:Int)(w:World)(hl:dH w lv mv s)(hk:k<s.days.length)(ok:Sea.Ok s)
    (b1:0<=fill/\fill<=100) (b2 : -100<=aY/\aY<=100) (b3 : -100<=u/\u<=100) :
    Calls Tryz.prog 117 #[lH lv k fill aY u] w (dI (.bool (zL s k fill aY u)) w):=by
 have hp:=agS s k fill aY u
 have c0:=fun(w1:World) (h:dH w1 lv mv s)=>agT lv mv s k fill aY u w1 h hk
 have c1:=fun(w1:World) (h:dH w1 lv mv s)=>adM lv mv s k fill aY u w1 h hk b3
 have c2:=fun(w1:World) (h:dH w1 lv mv s)=>adG lv mv s k fill aY u w1 h hk ok b1 b2 b3
 have c3:=fun(w1:World) (h:dH w1 lv mv s)=>ag0 lv mv s k fill aY u w1 h hk ok b1 b2 b3
 have c4:=fun(w1:World) (h:dH w1 lv mv s)=>agZ lv mv s k fill aY u w1 h hk b1 b2 b3
 have c5:=fun(w1:World) (h:dH w1 lv mv s)=>ajZ lv mv s k fill aY u w1 h hk b1 b2 b3
 generalize decide ((Sea.aP s.days k).offer<u)=t0 at hp c0
 generalize decide ((Sea.aP s.days k).take < -u)=t1 at hp c1
 generalize decide ((s.lim fill).iq<aY+u)=t2 at hp c2
 generalize decide ((s.lim fill).out < -aY - u)=t3 at hp c3
 generalize (!Sea.inB (fill+aY+u) (Sea.aP s.days k).dB (Sea.aP s.days k).dK)=t4 at hp c4
 generalize (decide ((k:Int)=(s.days.length:Int) - 1) && !Sea.inB (fill+aY+u) s.UE s.UC)=t5 at hp c5
 replace hp:=ai hp
 go_enter Tryz.func117,Tryz.ntmps117
 go_wp2_with (go_at_call 172;refine(ajV _ _ _ _ _ _).mono ?_;rintro e w1 ⟨rfl,hB1⟩)
 have hl3:=(hl.mono ((Below.refl _ _).alloc (Nat.le_refl _) _)).mono hB1
 have hB2:Below w.heap.size w w1:=((Below.refl _ _).alloc (Nat.le_refl _) _).trans (hB1.mono (by simp))
 clear hl hB1
 go_loopw [7] (fun i wr=>((i=.int .i64 0/\Hid (True))\/(i=.int .i64 1/\Hid (t0=false))\/(i=.int .i64 2/\Hid (t0=false/\t1=false))\/(i=.int .i64 3/\Hid (t0=false/\t1=false/\t2=false))\/(i=.int .i64 4/\Hid (t0=false/\t1=false/\t2=false/\t3=false))\/(i=.int .i64 5/\Hid (t0=false/\t1=false/\t2=false/\t3=false/\t4=false))\/(i=.int .i64 6/\Hid (t0=false/\t1=false/\t2=false/\t3=false/\t4=false/\t5=false)))/\∃g:Grow w1,wr=g.x) (fun i _=>6 - (intOf i).toNat)
 case atStart=>exact⟨.inl ⟨rfl,trivial⟩,Grow.self w1,rfl⟩
 case round =>
  obtain⟨hi,g,rfl⟩:=hrel
  have hl4:=hl3.mono g.h
  have hB3:Below w.heap.size w g.x:=hB2.trans (g.h.mono hB2.size)
  rcases hi with ⟨rfl,hh⟩|⟨rfl,hh⟩|⟨rfl,hh⟩|⟨rfl,hh⟩|⟨rfl,hh⟩|⟨rfl,hh⟩|⟨rfl,hh⟩
  . have hx:∀w:World,(Instr.index 267 (Un (lH lv k fill aY u)) (.int .i64 0)).run Tryz.prog w=.ok (.func (.func 190) #[lH lv k fill aY u] #[]) w:=fun w=>(r_ _ _ _ _ _ _ w).1
    cases ht:t0
    . replace c0:=fun(w1:World) (h:dH w1 lv mv s)=>ht ▸ c0 w1 h
      replace ht:=ai ht
      go_wp2_with (go_at_call 190;refine(c0 _ hl4).mono ?_;rintro e w2 ⟨rfl,hB4⟩)
      exact⟨⟨.inr (.inl ⟨rfl,by unfold Hid;simp[hh.out,ht.out]⟩),g.next hB4⟩,by simp[intOf]⟩
    . replace c0:=fun(w1:World) (h:dH w1 lv mv s)=>ht ▸ c0 w1 h
      replace ht:=ai ht
      go_wp2_with (go_at_call 190;refine(c0 _ hl4).mono ?_;rintro e w2 ⟨rfl,hB4⟩)
      go_ret
      exact⟨bP (by rw[hp.out];simp[ht.out]),hB3.trans (hB4.mono hB3.size)⟩
  . have hx:∀w:World,(Instr.index 267 (Un (lH lv k fill aY u)) (.int .i64 1)).run Tryz.prog w=.ok (.func (.func 191) #[lH lv k fill aY u] #[]) w:=fun w=>(r_ _ _ _ _ _ _ w).2.1
    cases ht:t1
    . replace c1:=fun(w1:World) (h:dH w1 lv mv s)=>ht ▸ c1 w1 h
      replace ht:=ai ht
      go_wp2_with (go_at_call 191;refine(c1 _ hl4).mono ?_;rintro e w2 ⟨rfl,hB4⟩)
      exact⟨⟨.inr (.inr (.inl ⟨rfl,by unfold Hid;simp[hh.out,ht.out]⟩)),g.next hB4⟩,by simp[intOf]⟩
    . replace c1:=fun(w1:World) (h:dH w1 lv mv s)=>ht ▸ c1 w1 h
      replace ht:=ai ht
      go_wp2_with (go_at_call 191;refine(c1 _ hl4).mono ?_;rintro e w2 ⟨rfl,hB4⟩)
      go_ret
      exact⟨bP (by rw[hp.out];simp[ht.out]),hB3.trans (hB4.mono hB3.size)⟩
  . have hx:∀w:World,(Instr.index 267 (Un (lH lv k fill aY u)) (.int .i64 2)).run Tryz.prog w=.ok (.func (.func 192) #[lH lv k fill aY u] #[]) w:=fun w=>(r_ _ _ _ _ _ _ w).2.2.1
    cases ht:t2
    . replace c2:=fun(w1:World) (h:dH w1 lv mv s)=>ht ▸ c2 w1 h
      replace ht:=ai ht
      go_wp2_with (go_at_call 192;refine(c2 _ hl4).mono ?_;rintro e w2 ⟨rfl,hB4⟩)
      exact⟨⟨.inr (.inr (.inr (.inl ⟨rfl,by unfold Hid;simp[hh.out,ht.out]⟩))),g.next hB4⟩,by simp[intOf]⟩
    . replace c2:=fun(w1:World) (h:dH w1 lv mv s)=>ht ▸ c2 w1 h
      replace ht:=ai ht
      go_wp2_with (go_at_call 192;refine(c2 _ hl4).mono ?_;rintro e w2 ⟨rfl,hB4⟩)
      go_ret
      exact⟨bP (by rw[hp.out];simp[ht.out]),hB3.trans (hB4.mono hB3.size)⟩
  . have hx:∀w:World,(Instr.index 267 (Un (lH lv k fill aY u)) (.int .i64 3)).run Tryz.prog w=.ok (.func (.func 193) #[lH lv k fill aY u] #[]) w:=fun w=>(r_ _ _ _ _ _ _ w).2.2.2.1
    cases ht:t3
    . replace c3:=fun(w1:World) (h:dH w1 lv mv s)=>ht ▸ c3 w1 h
      replace ht:=ai ht
      go_wp2_with (go_at_call 193;refine(c3 _ hl4).mono ?_;rintro e w2 ⟨rfl,hB4⟩)
      exact⟨⟨.inr (.inr (.inr (.inr (.inl ⟨rfl,by unfold Hid;simp[hh.out,ht.out]⟩)))),g.next hB4⟩,by simp[intOf]⟩
    . replace c3:=fun(w1:World) (h:dH w1 lv mv s)=>ht ▸ c3 w1 h
      replace ht:=ai ht
      go_wp2_with (go_at_call 193;refine(c3 _ hl4).mono ?_;rintro e w2 ⟨rfl,hB4⟩)
      go_ret
      exact⟨bP (by rw[hp.out];simp[ht.out]),hB3.trans (hB4.mono hB3.size)⟩
  . have hx:∀w:World,(Instr.index 267 (Un (lH lv k fill aY u)) (.int .i64 4)).run Tryz.prog w=.ok (.func (.func 194) #[lH lv k fill aY u] #[]) w:=fun w=>(r_ _ _ _ _ _ _ w).2.2.2.2.1
    cases ht:t4
    . replace c4:=fun(w1:World) (h:dH w1 lv mv s)=>ht ▸ c4 w1 h
      replace ht:=ai ht
      go_wp2_with (go_at_call 194;refine(c4 _ hl4).mono ?_;rintro e w2 ⟨rfl,hB4⟩)
      exact⟨⟨.inr (.inr (.inr (.inr (.inr (.inl ⟨rfl,by unfold Hid;simp[hh.out,ht.out]⟩))))),g.next hB4⟩,by simp[intOf]⟩
    . replace c4:=fun(w1:World) (h:dH w1 lv mv s)=>ht ▸ c4 w1 h
      replace ht:=ai ht
      go_wp2_with (go_at_call 194;refine(c4 _ hl4).mono ?_;rintro e w2 ⟨rfl,hB4⟩)
      go_ret
      exact⟨bP (by rw[hp.out];simp[ht.out]),hB3.trans (hB4.mono hB3.size)⟩
  . have hx:∀w:World,(Instr.index 267 (Un (lH lv k fill aY u)) (.int .i64 5)).run Tryz.prog w=.ok (.func (.func 195) #[lH lv k fill aY u] #[]) w:=fun w=>(r_ _ _ _ _ _ _ w).2.2.2.2.2
    cases ht:t5
    . replace c5:=fun(w1:World) (h:dH w1 lv mv s)=>ht ▸ c5 w1 h
      replace ht:=ai ht
      go_wp2_with (go_at_call 195;refine(c5 _ hl4).mono ?_;rintro e w2 ⟨rfl,hB4⟩)
      exact⟨⟨.inr (.inr (.inr (.inr (.inr (.inr (⟨rfl,by unfold Hid;simp[hh.out,ht.out]⟩)))))),g.next hB4⟩,by simp[intOf]⟩
    . replace c5:=fun(w1:World) (h:dH w1 lv mv s)=>ht ▸ c5 w1 h
      replace ht:=ai ht
      go_wp2_with (go_at_call 195;refine(c5 _ hl4).mono ?_;rintro e w2 ⟨rfl,hB4⟩)
      go_ret
      exact⟨bP (by rw[hp.out];simp[ht.out]),hB3.trans (hB4.mono hB3.size)⟩
  . go_wp2
    go_ret
    exact⟨bP (by rw[hp.out];simp[hh.out]),hB3⟩
