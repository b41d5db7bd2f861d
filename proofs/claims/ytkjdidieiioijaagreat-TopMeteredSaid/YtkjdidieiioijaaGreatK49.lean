/- Walks. -/
import Derived.Test.YtkjdidieiioijaaGreatK48
set_option linter.all false
set_option maxRecDepth 100000
set_option maxHeartbeats 16000000
namespace Go.Proofs.YtkjdidieiioijaaGreat.S
open Go.RowKit Go.Sd
theorem CO {a b l h:Int}(hn:¬ (l<=a/\a<=b/\b<=h)):Sea.g_ a b l h=false:=by
 cases hs:Sea.g_ a b l h
 . rfl
 . exact absurd (Sea.mM.1 hs) hn
theorem oG (lo hi a b:Int)(w:World) :
    Calls Tryz.prog 112 #[.agg #[.int .i64 lo,.int .i64 hi],.int .i64 a,.int .i64 b] w (dI (.bool (Sea.g_ lo hi a b)) w):=by
 by_cases h1:a<=lo
 . by_cases h2:lo<=hi
   . by_cases h3:hi<=b
     . have hf:Hid (Sea.g_ lo hi a b=true):=Sea.mM.2 ⟨h1,h2,h3⟩
       go_enter Tryz.func112,Tryz.ntmps112
       go_wp2
       go_ret
       exact⟨bP (by rw[hf.out]),(Below.refl _ _).alloc (Nat.le_refl _) _⟩
     . have hf:Hid (Sea.g_ lo hi a b=false):=CO (by omega)
       have h3':b<hi:=by omega
       go_enter Tryz.func112,Tryz.ntmps112
       go_wp2
       go_ret
       exact⟨bP (by rw[hf.out]),(Below.refl _ _).alloc (Nat.le_refl _) _⟩
   . have hf:Hid (Sea.g_ lo hi a b=false):=CO (by omega)
     have h2':hi<lo:=by omega
     go_enter Tryz.func112,Tryz.ntmps112
     go_wp2
     go_ret
     exact⟨bP hf.out.symm,(Below.refl _ _).alloc (Nat.le_refl _) _⟩
 . have hf:Hid (Sea.g_ lo hi a b=false):=CO (by omega)
   have h1':lo<a:=by omega
   go_enter Tryz.func112,Tryz.ntmps112
   go_wp2
   go_ret
   exact⟨bP hf.out.symm,(Below.refl _ _).alloc (Nat.le_refl _) _⟩
abbrev ah' (d:Sea.Day):Value:=.agg #[.int .i64 d.buy,.int .i64 d.sell,.int .i64 d.offer,.int .i64 d.take,.int .i64 d.dB,.int .i64 d.dK,.int .i64 d.nlo,.int .i64 d.nhi]
abbrev Rx (d:Sea.Day):Obj:=.cells #[.int .i64 d.buy,.int .i64 d.sell,.int .i64 d.offer,.int .i64 d.take,.int .i64 d.dB,.int .i64 d.dK,.int .i64 d.nlo,.int .i64 d.nhi] 182
theorem ajY (space:Int)(d:Sea.Day)(w:World)(b:Nat)(c0:w.cell? ⟨b,0,none⟩=some (.int .i64 space)) :
    Calls Tryz.prog 111 #[ah' d,.pointer (some ⟨b,0,none⟩)] w (dI (.bool (Sea.PY space d)) w):=by
 have hb0:=World.block_lt_of_cell? w ⟨b,0,none⟩ c0
 simp only at hb0
 obtain⟨r,hr⟩:=aG (Sea.PY space d)
 rw[hr]
 unfold Sea.PY at hr
 have hc1:=fun w1=>jv d.buy 0 1000000 w1
 have hc2:=fun w1=>jv d.sell 0 1000000 w1
 have hc3:=fun w1=>jv d.offer 0 100 w1
 have hc4:=fun w1=>jv d.take 0 100 w1
 have hc5:=fun w1=>oG d.dB d.dK 0 space w1
 have hc6:=fun w1=>oG d.nlo d.nhi (-100) 100 w1
 generalize Sea.inB d.buy 0 1000000=t1 at hr hc1
 generalize Sea.inB d.sell 0 1000000=t2 at hr hc2
 generalize Sea.inB d.offer 0 100=t3 at hr hc3
 generalize Sea.inB d.take 0 100=t4 at hr hc4
 generalize Sea.g_ d.dB d.dK 0 space=t5 at hr hc5
 generalize Sea.g_ d.nlo d.nhi (-100) 100=t6 at hr hc6
 replace hr:=ai hr
 have hg:=az (w.alloc (Rx d))
 have hBw:Below w.heap.size w (w.alloc (Rx d)):=(Below.refl _ _).alloc (Nat.le_refl _) _
 cases t1
 . skip
   go_enter Tryz.func111,Tryz.ntmps111
   go_wp2_with (first|(go_at_call 110;((with_reducible refine(hc1 _).mono ?_);rintro e w' ⟨rfl,rfl⟩))|(go_at_call 110;((with_reducible refine(hc2 _).mono ?_);rintro e w' ⟨rfl,rfl⟩))|(go_at_call 110;((with_reducible refine(hc3 _).mono ?_);rintro e w' ⟨rfl,rfl⟩))|(go_at_call 110;((with_reducible refine(hc4 _).mono ?_);rintro e w' ⟨rfl,rfl⟩))|(go_at_call 112;((with_reducible refine(hc5 _).mono ?_);rintro e w' ⟨rfl,JD⟩;obtain⟨g1,rfl⟩:∃g1:Grow (w.alloc (Rx d)),w'=g1.x:=⟨⟨w',JD⟩,rfl⟩))|(go_at_call 112;((with_reducible refine(hc6 _).mono ?_);rintro e w' ⟨rfl,JD⟩;obtain⟨g2,rfl⟩:=g1.next JD)))
   go_ret
   exact⟨bP (by rw[<- hr.out];simp),hBw⟩
 . skip
   cases t2
   . skip
     go_enter Tryz.func111,Tryz.ntmps111
     go_wp2_with (first|(go_at_call 110;((with_reducible refine(hc1 _).mono ?_);rintro e w' ⟨rfl,rfl⟩))|(go_at_call 110;((with_reducible refine(hc2 _).mono ?_);rintro e w' ⟨rfl,rfl⟩))|(go_at_call 110;((with_reducible refine(hc3 _).mono ?_);rintro e w' ⟨rfl,rfl⟩))|(go_at_call 110;((with_reducible refine(hc4 _).mono ?_);rintro e w' ⟨rfl,rfl⟩))|(go_at_call 112;((with_reducible refine(hc5 _).mono ?_);rintro e w' ⟨rfl,JD⟩;obtain⟨g1,rfl⟩:∃g1:Grow (w.alloc (Rx d)),w'=g1.x:=⟨⟨w',JD⟩,rfl⟩))|(go_at_call 112;((with_reducible refine(hc6 _).mono ?_);rintro e w' ⟨rfl,JD⟩;obtain⟨g2,rfl⟩:=g1.next JD)))
     go_ret
     exact⟨bP (by rw[<- hr.out];simp),hBw⟩
   . skip
     cases t3
     . skip
       go_enter Tryz.func111,Tryz.ntmps111
       go_wp2_with (first|(go_at_call 110;((with_reducible refine(hc1 _).mono ?_);rintro e w' ⟨rfl,rfl⟩))|(go_at_call 110;((with_reducible refine(hc2 _).mono ?_);rintro e w' ⟨rfl,rfl⟩))|(go_at_call 110;((with_reducible refine(hc3 _).mono ?_);rintro e w' ⟨rfl,rfl⟩))|(go_at_call 110;((with_reducible refine(hc4 _).mono ?_);rintro e w' ⟨rfl,rfl⟩))|(go_at_call 112;((with_reducible refine(hc5 _).mono ?_);rintro e w' ⟨rfl,JD⟩;obtain⟨g1,rfl⟩:∃g1:Grow (w.alloc (Rx d)),w'=g1.x:=⟨⟨w',JD⟩,rfl⟩))|(go_at_call 112;((with_reducible refine(hc6 _).mono ?_);rintro e w' ⟨rfl,JD⟩;obtain⟨g2,rfl⟩:=g1.next JD)))
       go_ret
       exact⟨bP (by rw[<- hr.out];simp),hBw⟩
     . skip
       cases t4
       . skip
         go_enter Tryz.func111,Tryz.ntmps111
         go_wp2_with (first|(go_at_call 110;((with_reducible refine(hc1 _).mono ?_);rintro e w' ⟨rfl,rfl⟩))|(go_at_call 110;((with_reducible refine(hc2 _).mono ?_);rintro e w' ⟨rfl,rfl⟩))|(go_at_call 110;((with_reducible refine(hc3 _).mono ?_);rintro e w' ⟨rfl,rfl⟩))|(go_at_call 110;((with_reducible refine(hc4 _).mono ?_);rintro e w' ⟨rfl,rfl⟩))|(go_at_call 112;((with_reducible refine(hc5 _).mono ?_);rintro e w' ⟨rfl,JD⟩;obtain⟨g1,rfl⟩:∃g1:Grow (w.alloc (Rx d)),w'=g1.x:=⟨⟨w',JD⟩,rfl⟩))|(go_at_call 112;((with_reducible refine(hc6 _).mono ?_);rintro e w' ⟨rfl,JD⟩;obtain⟨g2,rfl⟩:=g1.next JD)))
         go_ret
         exact⟨bP (by rw[<- hr.out];simp),hBw⟩
       . skip
         cases t5
         . skip
           go_enter Tryz.func111,Tryz.ntmps111
           go_wp2_with (first|(go_at_call 110;((with_reducible refine(hc1 _).mono ?_);rintro e w' ⟨rfl,rfl⟩))|(go_at_call 110;((with_reducible refine(hc2 _).mono ?_);rintro e w' ⟨rfl,rfl⟩))|(go_at_call 110;((with_reducible refine(hc3 _).mono ?_);rintro e w' ⟨rfl,rfl⟩))|(go_at_call 110;((with_reducible refine(hc4 _).mono ?_);rintro e w' ⟨rfl,rfl⟩))|(go_at_call 112;((with_reducible refine(hc5 _).mono ?_);rintro e w' ⟨rfl,JD⟩;obtain⟨g1,rfl⟩:∃g1:Grow (w.alloc (Rx d)),w'=g1.x:=⟨⟨w',JD⟩,rfl⟩))|(go_at_call 112;((with_reducible refine(hc6 _).mono ?_);rintro e w' ⟨rfl,JD⟩;obtain⟨g2,rfl⟩:=g1.next JD)))
           go_ret
           exact⟨bP (by rw[<- hr.out];simp),hBw.trans (g1.h.mono hBw.size)⟩
         . skip
           cases t6
           . skip
             go_enter Tryz.func111,Tryz.ntmps111
             go_wp2_with (first|(go_at_call 110;((with_reducible refine(hc1 _).mono ?_);rintro e w' ⟨rfl,rfl⟩))|(go_at_call 110;((with_reducible refine(hc2 _).mono ?_);rintro e w' ⟨rfl,rfl⟩))|(go_at_call 110;((with_reducible refine(hc3 _).mono ?_);rintro e w' ⟨rfl,rfl⟩))|(go_at_call 110;((with_reducible refine(hc4 _).mono ?_);rintro e w' ⟨rfl,rfl⟩))|(go_at_call 112;((with_reducible refine(hc5 _).mono ?_);rintro e w' ⟨rfl,JD⟩;obtain⟨g1,rfl⟩:∃g1:Grow (w.alloc (Rx d)),w'=g1.x:=⟨⟨w',JD⟩,rfl⟩))|(go_at_call 112;((with_reducible refine(hc6 _).mono ?_);rintro e w' ⟨rfl,JD⟩;obtain⟨g2,rfl⟩:=g1.next JD)))
             go_ret
             exact⟨bP (by rw[<- hr.out];simp),hBw.trans (g2.h.mono hBw.size)⟩
           . skip
             go_enter Tryz.func111,Tryz.ntmps111
             go_wp2_with (first|(go_at_call 110;((with_reducible refine(hc1 _).mono ?_);rintro e w' ⟨rfl,rfl⟩))|(go_at_call 110;((with_reducible refine(hc2 _).mono ?_);rintro e w' ⟨rfl,rfl⟩))|(go_at_call 110;((with_reducible refine(hc3 _).mono ?_);rintro e w' ⟨rfl,rfl⟩))|(go_at_call 110;((with_reducible refine(hc4 _).mono ?_);rintro e w' ⟨rfl,rfl⟩))|(go_at_call 112;((with_reducible refine(hc5 _).mono ?_);rintro e w' ⟨rfl,JD⟩;obtain⟨g1,rfl⟩:∃g1:Grow (w.alloc (Rx d)),w'=g1.x:=⟨⟨w',JD⟩,rfl⟩))|(go_at_call 112;((with_reducible refine(hc6 _).mono ?_);rintro e w' ⟨rfl,JD⟩;obtain⟨g2,rfl⟩:=g1.next JD)))
             go_ret
             exact⟨bP (by rw[<- hr.out];simp),hBw.trans (g2.h.mono hBw.size)⟩
theorem ac7:∀(args:Array Value)(w:World),(callFunc 111 args).run Tryz.prog w=.ok (.enter 111 args) w:=fun _ _=>by kernel_rfl
theorem Zw (space:Int)(d:Sea.Day)(w:World)(b bd:Nat)(c0:w.cell? ⟨b,0,none⟩=some (.int .i64 space))(c1:w.cell? ⟨bd,0,none⟩=some (.func (.func 111) #[] #[.pointer (some ⟨b,0,none⟩)])) :
    Calls Tryz.prog 114 #[ah' d,.pointer (some ⟨bd,0,none⟩)] w (dI (.bool (!Sea.PY space d)) w):=by
 have hen:=ac7
 have hb0:=World.block_lt_of_cell? w ⟨b,0,none⟩ c0
 have hb1:=World.block_lt_of_cell? w ⟨bd,0,none⟩ c1
 simp only at hb0 hb1
 have hBw:Below w.heap.size w (w.alloc (Rx d)):=(Below.refl _ _).alloc (Nat.le_refl _) _
 go_enter Tryz.func114,Tryz.ntmps114
 go_wp2_with (go_at_call 111;refine(ajY space d _ b (ae hBw c0)).mono ?_;rintro e w' ⟨rfl,hb⟩)
 go_ret
 exact⟨rfl,hBw.trans (hb.mono hBw.size)⟩
def Found (b:Bool)(w:World)(e:Ending)(w':World):Prop:=∃n:Int,e=.returned (.int .i64 n)/\(b=true↔0<=n)/\Below w.heap.size w w'
theorem any_none {α:Type}{l:List α}{p:α->Bool}(h:∀j (hj:j<l.length),p l[j]=false):l.any p=false:=by
 rw[List.any_eq_false]
 intro x hx
 obtain⟨i,hi,rfl⟩:=List.getElem_of_mem hx
 rw[h i hi];exact Bool.false_ne_true
theorem any_some {α:Type}{l:List α}{p:α->Bool}{j:Nat}(hj:j<l.length)(h:p l[j]=true):l.any p=true:=List.any_eq_true.2 ⟨_,List.getElem_mem hj,h⟩
theorem PX {l:List Sea.Day}{j:Nat}(h:j<l.length):Sea.aP l j=l[j]:=by simp[Sea.aP,h]
theorem adn (v:Value)(l:List Sea.Day)(p:Sea.Day->Bool)(nf:Nat)(nb:Array Value)(w:World)(hv:qB w v l)(en:∀args w,(callFunc nf args).run Tryz.prog w=.ok (.enter nf args) w)
    (hp:∀d X,Below w.heap.size w X->Calls Tryz.prog nf (#[ah' d] ++ nb) X (dI (.bool (p d)) X)) :
    Calls Tryz.prog 171 #[v,.func (.func nf) #[] nb] w (Found (l.any p) w):=by
 obtain⟨a,cap,rfl,hm,hc⟩:=hv
 unfold maxLen at hm
 replace hp:=ai hp
 go_enter Tryz.func171,Tryz.ntmps171
 go_wp2_with (fail)
 have hg:=az w
 go_loopw [8] (fun i wr=>∃k:Nat,k<=l.length/\i=.int .i64 k/\Hid (∀j (hj:j<l.length),j<k->p l[j]=false)/\∃g:Grow w,wr=g.x) (fun i _=>l.length - (intOf i).toNat)
 case atStart=>exact⟨0,by omega,rfl,(fun j _ h=>by omega:∀j (hj:j<l.length),j<0->p l[j]=false),Grow.self w,rfl⟩
 case round =>
  obtain⟨k,hk,rfl,hH,g,rfl⟩:=hrel
  by_cases hlt:k<l.length
  . obtain⟨b,off,rfl,hbl,hcell⟩:=hc (by omega)
    obtain⟨c0,c1,c2,c3,c4,c5,c6,c7⟩:=hcell k hlt
    have hki:(0:Int)<=(k:Int)/\(k:Int)<l.length:=by omega
    have hcall:=hp.out (Sea.aP l k) g.x g.h
    rw[PX hlt] at c0 c1 c2 c3 c4 c5 c6 c7 hcall
    clear hcell hc
    cases ht:p l[k]
    . rw[ht] at hcall
      have hH':Hid (∀j (hj:j<l.length),j<k+1->p l[j]=false):=fun j hj hjk=>by
       rcases Nat.lt_succ_iff_lt_or_eq.1 hjk with h|rfl
       . exact hH.out j hj h
       . exact ht
      replace ht:=ai ht
      replace hcall:=ai hcall
      go_wp2_with ((with_reducible refine ax hcall.out ?_);rintro e w' ⟨rfl,hb'⟩;obtain⟨g1,rfl⟩:=g.next hb')
      exact⟨⟨k+1,by omega,by go_num,hH',g1,rfl⟩,by simp[intOf];omega⟩
    . rw[ht] at hcall
      have hany:=ai (any_some hlt ht)
      replace ht:=ai ht
      replace hcall:=ai hcall
      go_wp2_with ((with_reducible refine ax hcall.out ?_);rintro e w' ⟨rfl,hb'⟩;obtain⟨g1,rfl⟩:=g.next hb')
      go_ret
      exact⟨k,rfl,⟨fun _=>by omega,fun _=>hany.out⟩,g1.h⟩
  . have hany:=ai (any_none fun j hj=>hH.out j hj (by omega))
    go_wp2_with (fail)
    go_ret
    exact⟨-1,rfl,⟨(fun h=>by rw[hany.out] at h;cases h),(fun h=>by omega)⟩,g.h⟩
theorem UA (v:Value)(l:List Sea.Day)(p:Sea.Day->Bool)(nf:Nat)(nb:Array Value)(w:World)(hv:qB w v l)(en:∀args w,(callFunc nf args).run Tryz.prog w=.ok (.enter nf args) w)
    (hp:∀d X,Below w.heap.size w X->Calls Tryz.prog nf (#[ah' d] ++ nb) X (dI (.bool (p d)) X)) :
    Calls Tryz.prog 113 #[v,.func (.func nf) #[] nb] w (dI (.bool (l.any p)) w):=by
 have hc:=ai (adn v l p nf nb w hv en hp)
 clear hp
 cases ht:l.any p
 all_goals
  replace ht:=ai ht
  go_enter Tryz.func113,Tryz.ntmps113
  go_wp2_with (go_at_call 171;refine ax hc.out ?_;rintro e w' ⟨n,rfl,hn,hb⟩;rw[ht.out] at hn;have hn':Hid (_↔(0:Int)<=n):=hn;clear hn)
  go_ret
  refine⟨bP ?_,hb⟩
  have:=hn'.out
  simp at this
  simp[this]
theorem UF:∀(args:Array Value)(w:World),(callFunc 114 args).run Tryz.prog w=.ok (.enter 114 args) w:=fun _ _=>by kernel_rfl
theorem V7 {α:Type}(l:List α)(p:α->Bool):(!l.any fun x=>!p x)=l.all p:=by
 induction l with
 | nil=>rfl
 | cons x xs ih=>simp only[List.any_cons,List.all_cons,Bool.not_or,Bool.not_not,ih]
theorem Sz (s:Sea.S):Sea.aao s=s.days.all (Sea.PY s.space):=by
 unfold Sea.aao
 rw[Bool.eq_iff_iff,List.all_eq_true,List.all_eq_true]
 constructor
 . intro h d hd
   obtain⟨i,hi,rfl⟩:=List.getElem_of_mem hd
   have:=h i (List.mem_range.2 hi)
   rwa [PX hi] at this
 . intro h i hi
   have hi:=List.mem_range.1 hi
   rw[PX hi]
   exact h _ (List.getElem_mem hi)
theorem kY {a b c:Int}{t:Bool}(h:Sea.inB a b c=t)(w:World):Calls Tryz.prog 110 #[.int .i64 a,.int .i64 b,.int .i64 c] w fun e w'=>e=.returned (.bool t)/\w=w':=by
 rw[<- h];exact jv a b c w
theorem sD {a b l h:Int}{t:Bool}(ht:Sea.g_ a b l h=t)(w:World):Calls Tryz.prog 112 #[.agg #[.int .i64 a,.int .i64 b],.int .i64 l,.int .i64 h] w (dI (.bool t) w):=by
 rw[<- ht];exact oG a b l h w
theorem nP (sv:Value)(s:Sea.S)(w:World)(hs:mZ w sv s) :
    Calls Tryz.prog 58 #[sv] w (dI (.bool (Sea.iU s)) w):=by
 have hs':=hs
 obtain⟨rv,dv,rfl,hr,hd⟩:=hs'
 obtain⟨ra,Ce,rfl,hrm,hrc⟩:=hr
 have hd':=hd
 obtain⟨da,ac0,rfl,hdm,-⟩:=hd'
 unfold maxLen at hrm hdm
 go_enter Tryz.func58,Tryz.ntmps58
 go_wp2_with (fail)
 generalize hW:w.alloc (Ny s _ _)=W
 obtain⟨hsz,hBw,q0,q1,q2,q3,q4,q5⟩:=PW hW
 have hd2:=hd.mono hBw
 have hbs:w.heap.size<W.heap.size:=hsz
 clear hW hs hd
 have hg:=az W
 go_loopw [9] (fun i wr=>∃k:Nat,k<=s.rows.length/\i=.int .i64 k/\Hid (∀j,j<k->Sea.rowB s.rows j=true)/\∃g:Grow W,wr=g.x) (fun i _=>s.rows.length - (intOf i).toNat)
 case atStart=>exact⟨0,by omega,rfl,(fun j h=>by omega:∀j,j<0->Sea.rowB s.rows j=true),Grow.self W,rfl⟩
 case round =>
  obtain⟨k,hk,rfl,hH,g,rfl⟩:=hrel
  by_cases hlt:k<s.rows.length
  . obtain⟨rb,off,rfl,hrl,hrk⟩:=hrc (by omega)
    obtain⟨c0,c1,c2⟩:=(hrk k hlt).mono hBw
    have awS:rb<W.heap.size:=by omega
    have hki:(0:Int)<=(k:Int)/\(k:Int)<s.rows.length:=by omega
    obtain⟨t,ht⟩:=aG (Sea.rowB s.rows k)
    have ht0:=ht
    unfold Sea.rowB at ht
    replace ht0:=ai ht0
    obtain⟨g1,hg1⟩:=g.alloc (.cells #[.int .i64 (Sea.rowAt s.rows k).fill,.int .i64 (Sea.rowAt s.rows k).iq,.int .i64 (Sea.rowAt s.rows k).out] 180)
    have hn:=World.alloc_heap_new g.x (.cells #[.int .i64 (Sea.rowAt s.rows k).fill,.int .i64 (Sea.rowAt s.rows k).iq,.int .i64 (Sea.rowAt s.rows k).out] 180)
    rw[hg1] at hn
    obtain⟨zn,dn,fn⟩:=ah hn
    have n0:=dn 0
    have n1:=dn 1
    have n2:=dn 2
    simp only[List.getElem?_toArray,List.getElem?_cons_zero,List.getElem?_cons_succ] at n0 n1 n2
    have amK:=hrk
    clear dn fn hrk
    replace amK:=ai amK
    cases h1:Sea.inB (Sea.rowAt s.rows k).fill 0 100
    . have ht1:Hid (Sea.rowB s.rows k=false):=by show _=_;rw[ht0.out,<- ht];simp[h1]
      replace ht:=ai ht
      go_wp2_with (fail)
      go_quiet ((go_at_call 110;exact Calls.quiet_of_same ((kY (by assumption) _).mono (by rintro e w' ⟨rfl,rfl⟩;exact⟨rfl,rfl⟩))))
      go_wp2_with (fail)
      go_ret
      refine⟨bP ?_,below_drewN (hBw.trans (g1.h.mono hBw.size)) _⟩
      have:=ht1.out
      unfold Sea.iU Sea.MB
      rw[lI hlt this];simp
    . cases h2:Sea.inB (Sea.rowAt s.rows k).iq 0 100
      . have ht1:Hid (Sea.rowB s.rows k=false):=by show _=_;rw[ht0.out,<- ht];simp[h1,h2]
        replace ht:=ai ht
        go_wp2_with (fail)
        go_quiet ((go_at_call 110;exact Calls.quiet_of_same ((kY (by assumption) _).mono (by rintro e w' ⟨rfl,rfl⟩;exact⟨rfl,rfl⟩))))
        go_wp2_with (fail)
        go_ret
        refine⟨bP ?_,below_drewN (hBw.trans (g1.h.mono hBw.size)) _⟩
        have:=ht1.out
        unfold Sea.iU Sea.MB
        rw[lI hlt this];simp
      . cases h3:Sea.inB (Sea.rowAt s.rows k).out 0 100
        . have ht1:Hid (Sea.rowB s.rows k=false):=by show _=_;rw[ht0.out,<- ht];simp[h1,h2,h3]
          replace ht:=ai ht
          go_wp2_with (fail)
          go_quiet ((go_at_call 110;exact Calls.quiet_of_same ((kY (by assumption) _).mono (by rintro e w' ⟨rfl,rfl⟩;exact⟨rfl,rfl⟩))))
          go_wp2_with (fail)
          go_ret
          refine⟨bP ?_,below_drewN (hBw.trans (g1.h.mono hBw.size)) _⟩
          have:=ht1.out
          unfold Sea.iU Sea.MB
          rw[lI hlt this];simp
        . by_cases hk0:k=0
          . subst hk0
            simp only[Nat.zero_mul,Nat.add_zero] at c0 c1 c2
            by_cases hf0:(Sea.rowAt s.rows 0).fill=0
            . have ht1:Hid (Sea.rowB s.rows 0=true):=by show _=_;rw[ht0.out,<- ht];simp[h1,h2,h3,hf0,show Sea.inB 0 0 100=true from rfl]
              have hb0:((Sea.rowAt s.rows 0).fill != 0)=false:=by rw[hf0];rfl
              replace hf0:=ai hf0
              replace ht:=ai ht
              go_wp2_with (fail)
              go_quiet ((go_at_call 110;exact Calls.quiet_of_same ((kY (by assumption) _).mono (by rintro e w' ⟨rfl,rfl⟩;exact⟨rfl,rfl⟩))))
              go_wp2_with (fail)
              have hH':Hid (∀j,j<0+1->Sea.rowB s.rows j=true):=upto_succ hH.out ht1.out
              obtain⟨g2,hg2⟩:=g1.next (below_drewN (Below.refl _ _) nq)
              exact⟨⟨0+1,by omega,by go_num,hH',g2,hg2⟩,by simp[intOf];omega⟩
            . have ht1:Hid (Sea.rowB s.rows 0=false):=by show _=_;rw[ht0.out,<- ht];simp[h1,h2,h3,hf0]
              have hb0:((Sea.rowAt s.rows 0).fill != 0)=true:=by simpa using hf0
              replace hf0:=ai hf0
              replace ht:=ai ht
              go_wp2_with (fail)
              go_quiet ((go_at_call 110;exact Calls.quiet_of_same ((kY (by assumption) _).mono (by rintro e w' ⟨rfl,rfl⟩;exact⟨rfl,rfl⟩))))
              go_wp2_with (fail)
              go_ret
              refine⟨bP ?_,below_drewN (hBw.trans (g1.h.mono hBw.size)) _⟩
              have:=ht1.out
              unfold Sea.iU Sea.MB
              rw[lI hlt this];simp
          . obtain⟨p0,-,-⟩:=yt.mono ((amK.out (k - 1) (by omega))) hBw
            have hkz:((k:Int) == 0)=false:=by simp;omega
            have hkp:0<k:=by omega
            have hkq:decide (0<k)=true:=by simpa using hkp
            have hk1:(0:Int)<(k:Int)/\(0:Int)<=(k:Int) - 1/\(k:Int) - 1<s.rows.length:=by omega
            by_cases hf0:(Sea.rowAt s.rows k).fill<=(Sea.rowAt s.rows (k - 1)).fill
            . have ht1:Hid (Sea.rowB s.rows k=false):=by show _=_;rw[ht0.out,<- ht];simp[h1,h2,h3,hf0,hk0,show 0<k by omega]
              replace ht:=ai ht
              go_wp2_with (fail)
              go_quiet ((go_at_call 110;exact Calls.quiet_of_same ((kY (by assumption) _).mono (by rintro e w' ⟨rfl,rfl⟩;exact⟨rfl,rfl⟩))))
              go_wp2_with (fail)
              go_ret
              refine⟨bP ?_,below_drewN (hBw.trans (g1.h.mono hBw.size)) _⟩
              have:=ht1.out
              unfold Sea.iU Sea.MB
              rw[lI hlt this];simp
            . have hf1:(Sea.rowAt s.rows (k - 1)).fill<(Sea.rowAt s.rows k).fill:=by omega
              have ht1:Hid (Sea.rowB s.rows k=true):=by show _=_;rw[ht0.out,<- ht];simp[h1,h2,h3,hf1,hk0,show 0<k by omega]
              replace ht:=ai ht
              go_wp2_with (fail)
              go_quiet ((go_at_call 110;exact Calls.quiet_of_same ((kY (by assumption) _).mono (by rintro e w' ⟨rfl,rfl⟩;exact⟨rfl,rfl⟩))))
              go_wp2_with (fail)
              have hH':Hid (∀j,j<k+1->Sea.rowB s.rows j=true):=upto_succ hH.out ht1.out
              obtain⟨g2,hg2⟩:=g1.next (below_drewN (Below.refl _ _) nq)
              exact⟨⟨k+1,by omega,by go_num,hH',g2,hg2⟩,by simp[intOf];omega⟩
  . have hrows:Hid (Sea.MB s.rows=true):=Sl fun j hj=>hH.out j (by omega)
    have avE:=ai (Sz s)
    have hf0:Hid (Sea.iU s=(Sea.headB s && s.days.all (Sea.PY s.space))):=by show _=_;unfold Sea.iU;rw[hrows.out,Sz,Bool.and_true]
    obtain⟨g1,hg1⟩:=g.alloc (.cells #[.func (.func 111) #[] #[.pointer (some ⟨w.heap.size,0,none⟩)]] 235)
    have hn:=World.alloc_heap_new g.x (.cells #[.func (.func 111) #[] #[.pointer (some ⟨w.heap.size,0,none⟩)]] 235)
    rw[hg1] at hn
    obtain⟨zn,dn,-⟩:=ah hn
    have n0:=dn 0
    simp only[List.getElem?_toArray,List.getElem?_cons_zero] at n0
    have n1:=g1.cell q0
    have hgs:=g1.size
    clear dn hH hn
    cases h1:Sea.inB s.space 1 100
    . skip
      have hf:Hid (Sea.iU s=false):=by show _=_;rw[hf0.out];unfold Sea.headB;simp[h1]
      go_wp2_with (first|(go_at_call 110;refine(kY (by assumption) _).mono ?_;rintro e w' ⟨rfl,rfl⟩)|(go_at_call 112;refine(sD (by assumption) _).mono ?_;rintro e w' ⟨rfl,hbS⟩;obtain⟨g2,rfl⟩:=g1.next hbS))
      go_ret
      exact⟨bP hf.out.symm,hBw.trans ((Grow.h _).mono hBw.size)⟩
    . skip
      cases h2:Sea.inB s.start 0 s.space
      . skip
        have hf:Hid (Sea.iU s=false):=by show _=_;rw[hf0.out];unfold Sea.headB;simp[h1,h2]
        go_wp2_with (first|(go_at_call 110;refine(kY (by assumption) _).mono ?_;rintro e w' ⟨rfl,rfl⟩)|(go_at_call 112;refine(sD (by assumption) _).mono ?_;rintro e w' ⟨rfl,hbS⟩;obtain⟨g2,rfl⟩:=g1.next hbS))
        go_ret
        exact⟨bP hf.out.symm,hBw.trans ((Grow.h _).mono hBw.size)⟩
      . skip
        cases h3:Sea.g_ s.UE s.UC 0 s.space
        . skip
          have hf:Hid (Sea.iU s=false):=by show _=_;rw[hf0.out];unfold Sea.headB;simp[h1,h2,h3]
          go_wp2_with (first|(go_at_call 110;refine(kY (by assumption) _).mono ?_;rintro e w' ⟨rfl,rfl⟩)|(go_at_call 112;refine(sD (by assumption) _).mono ?_;rintro e w' ⟨rfl,hbS⟩;obtain⟨g2,rfl⟩:=g1.next hbS))
          go_ret
          exact⟨bP hf.out.symm,hBw.trans ((Grow.h _).mono hBw.size)⟩
        . skip
          cases h4:Sea.inB s.rows.length 1 8
          . skip
            have hf:Hid (Sea.iU s=false):=by show _=_;rw[hf0.out];unfold Sea.headB;simp[h1,h2,h3,h4]
            go_wp2_with (first|(go_at_call 110;refine(kY (by assumption) _).mono ?_;rintro e w' ⟨rfl,rfl⟩)|(go_at_call 112;refine(sD (by assumption) _).mono ?_;rintro e w' ⟨rfl,hbS⟩;obtain⟨g2,rfl⟩:=g1.next hbS))
            go_ret
            exact⟨bP hf.out.symm,hBw.trans ((Grow.h _).mono hBw.size)⟩
          . skip
            cases h5:Sea.inB s.days.length 1 20
            . skip
              have hf:Hid (Sea.iU s=false):=by show _=_;rw[hf0.out];unfold Sea.headB;simp[h1,h2,h3,h4,h5]
              go_wp2_with (first|(go_at_call 110;refine(kY (by assumption) _).mono ?_;rintro e w' ⟨rfl,rfl⟩)|(go_at_call 112;refine(sD (by assumption) _).mono ?_;rintro e w' ⟨rfl,hbS⟩;obtain⟨g2,rfl⟩:=g1.next hbS))
              go_ret
              exact⟨bP hf.out.symm,hBw.trans ((Grow.h _).mono hBw.size)⟩
            . skip
              have hcon:∀(X:World),Below g1.x.heap.size g1.x X->Calls Tryz.prog 113 #[.slice da s.days.length ac0,.func (.func 114) #[] #[.pointer (some ⟨g.x.heap.size,0,none⟩)]] X (dI (.bool (s.days.any fun d=>!Sea.PY s.space d)) X):=fun X hX =>
               UA _ s.days _ _ _ X ((hd2.mono g1.h).mono hX) UF fun d Y hY=>Zw s.space d Y _ _ (ae hY (ae hX n1)) (ae hY (ae hX n0))
              have hf:Hid (Sea.iU s = !(s.days.any fun d=>!Sea.PY s.space d)):=by show _=_;rw[hf0.out,V7];unfold Sea.headB;simp[h1,h2,h3,h4,h5]
              generalize (s.days.any fun d=>!Sea.PY s.space d)=tt at hcon hf
              replace hcon:=ai hcon
              go_wp2_with (first|(go_at_call 110;refine(kY (by assumption) _).mono ?_;rintro e w' ⟨rfl,rfl⟩)|(go_at_call 112;refine(sD (by assumption) _).mono ?_;rintro e w' ⟨rfl,hbS⟩;obtain⟨g2,rfl⟩:=g1.next hbS)|(go_at_call 113;refine ax (hcon.out _ hbS) ?_;rintro e w' ⟨rfl,hbC⟩))
              go_ret
              exact⟨bP hf.out.symm,hBw.trans ((aj g2.h hbC).mono hBw.size)⟩
theorem ZI {sv:Value}{s:Sea.S}{t:Bool}(w:World)(hs:mZ w sv s)(h:Sea.iU s=t):Calls Tryz.prog 58 #[sv] w (dI (.bool t) w):=by
 rw[<- h];exact nP sv s w hs
theorem RH (sv lv:Value)(s:Sea.S)(l:List Int)(w:World)(hs:mZ w sv s)(hl:bK w lv l) :
    Calls Tryz.prog 59 #[sv,lv] w (dI (.bool (s.tH l)) w):=by
 obtain⟨rv,dv,rfl,-,⟨da,ac0,rfl,hdm,hdk⟩⟩:=hs
 obtain⟨aa,ac,rfl,ham,hac⟩:=hl
 unfold maxLen at ham hdm
 go_enter Tryz.func59,Tryz.ntmps59
 go_wp2_with (fail)
 generalize hW:w.alloc (Ny s _ _)=W
 obtain⟨hsz,hBw,q0,q1,q2,q3,q4,q5⟩:=PW hW
 clear hW
 have hg:=az W
 go_loopw [9] (fun i wr=>∃k:Nat,k<=l.length/\i=.int .i64 k/\Hid (∀j,j<k->j<s.days.length->Sea.inB (Sea.at0 l j) (Sea.aP s.days j).nlo (Sea.aP s.days j).nhi=true)/\∃g:Grow W,wr=g.x) (fun i _=>l.length - (intOf i).toNat)
 case atStart=>exact⟨0,by omega,rfl,(fun j h=>by omega:∀j,j<0->j<s.days.length->Sea.inB (Sea.at0 l j) (Sea.aP s.days j).nlo (Sea.aP s.days j).nhi=true),Grow.self W,rfl⟩
 case round =>
  obtain⟨k,hk,rfl,hH,g,rfl⟩:=hrel
  by_cases hlt:k<l.length
  . obtain⟨ab,ao,rfl,hal,hak⟩:=hac (by omega)
    have ca:=ae hBw (hak k hlt)
    have hal2:ab<W.heap.size:=by omega
    have hki:(0:Int)<=(k:Int)/\(k:Int)<l.length:=by omega
    clear hak hac
    by_cases hkd:k<s.days.length
    . obtain⟨db,awC,rfl,hdl,hdc⟩:=hdk (by omega)
      obtain⟨c0,c1,c2,c3,c4,c5,c6,c7⟩:=(hdc k hkd).mono hBw
      have awJ:db<W.heap.size:=by omega
      have as2:(k:Int)<s.days.length:=by omega
      have as3:decide (k<s.days.length)=true:=by simpa using hkd
      clear hdc hdk
      cases h1:Sea.inB (Sea.at0 l k) (Sea.aP s.days k).nlo (Sea.aP s.days k).nhi
      . have hf:Hid (s.tH l=false):=by
         show _=_
         unfold Sea.S.tH
         rw[lI hlt h1,Bool.and_false]
        go_wp2_with (fail)
        go_quiet ((go_at_call 110;exact Calls.quiet_of_same ((kY (by assumption) _).mono (by rintro e w' ⟨rfl,rfl⟩;exact⟨rfl,rfl⟩))))
        go_wp2_with (fail)
        go_ret
        exact⟨bP hf.out.symm,below_drewN (hBw.trans (g.h.mono hBw.size)) _⟩
      . have hH':Hid (∀j,j<k+1->j<s.days.length->Sea.inB (Sea.at0 l j) (Sea.aP s.days j).nlo (Sea.aP s.days j).nhi=true):=upto_succ hH.out fun _=>h1
        go_wp2_with (fail)
        go_quiet ((go_at_call 110;exact Calls.quiet_of_same ((kY (by assumption) _).mono (by rintro e w' ⟨rfl,rfl⟩;exact⟨rfl,rfl⟩))))
        go_wp2_with (fail)
        obtain⟨g2,hg2⟩:=g.next (below_drewN (Below.refl _ _) nq)
        exact⟨⟨k+1,by omega,by go_num,hH',g2,hg2⟩,by simp[intOf];omega⟩
    . have hH':Hid (∀j,j<k+1->j<s.days.length->Sea.inB (Sea.at0 l j) (Sea.aP s.days j).nlo (Sea.aP s.days j).nhi=true):=upto_succ hH.out fun h=>absurd h hkd
      have as2:(s.days.length:Int)<=(k:Int):=by omega
      have as3:decide (k<s.days.length)=false:=by simpa using hkd
      go_wp2_with (fail)
      go_quiet (fail)
      go_wp2_with (fail)
      obtain⟨g2,hg2⟩:=g.next (below_drewN (Below.refl _ _) nq)
      exact⟨⟨k+1,by omega,by go_num,hH',g2,hg2⟩,by simp[intOf];omega⟩
  . have hf:Hid (s.tH l=decide (l.length=s.days.length)):=by
     show _=_
     unfold Sea.S.tH
     by_cases he:l.length=s.days.length
     . rw[Sl fun j hj=>hH.out j (by omega) (by omega),Bool.and_true]
     . simp[he]
    by_cases he:l.length=s.days.length
    . have hbe:((l.length:Int) == (s.days.length:Int))=true:=by rw[he];simp
      have he2:Hid (decide (l.length=s.days.length)=true):=by show _=_;simp[he]
      clear he
      go_wp2_with (fail)
      go_ret
      exact⟨bP (by rw[hf.out,he2.out]),hBw.trans (g.h.mono hBw.size)⟩
    . have hbe:((l.length:Int) == (s.days.length:Int))=false:=by simp;omega
      have he2:Hid (decide (l.length=s.days.length)=false):=by show _=_;simp[he]
      clear he
      go_wp2_with (fail)
      go_ret
      exact⟨bP (by rw[hf.out,he2.out]),hBw.trans (g.h.mono hBw.size)⟩
theorem QD {sv lv:Value}{s:Sea.S}{l:List Int}{t:Bool}(w:World)(hs:mZ w sv s)(hl:bK w lv l)(h:s.tH l=t) :
    Calls Tryz.prog 59 #[sv,lv] w (dI (.bool t) w):=by
 rw[<- h];exact RH sv lv s l w hs hl
abbrev am6 (s:Sea.S)(rv dv mv:Value):Obj:=.cells #[.int .i64 s.space,.int .i64 s.start,.int .i64 s.UE,.int .i64 s.UC,rv,dv,mv] 166
theorem agy {w W:World}{s:Sea.S}{rv dv mv:Value}(h:w.alloc (am6 s rv dv mv)=W)(hr:yN w rv s.rows)(hd:qB w dv s.days):dH W (.pointer (some ⟨w.heap.size,0,none⟩)) mv s:=by
 have hB:Below w.heap.size w W:=by rw[<- h];exact(Below.refl _ _).alloc (Nat.le_refl _) _
 have hn:W.heap[w.heap.size]? = some (am6 s rv dv mv):=by rw[<- h];exact World.alloc_heap_new _ _
 obtain⟨z,d,-⟩:=ah hn
 exact⟨w.heap.size,rv,dv,rfl,⟨d 0,d 1,d 2,d 3,d 4,d 5,d 6⟩,z,hr.mono hB,hd.mono hB⟩
