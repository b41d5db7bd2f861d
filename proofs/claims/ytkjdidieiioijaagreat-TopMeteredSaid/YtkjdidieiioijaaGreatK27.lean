/- Walks. -/
import Derived.Test.YtkjdidieiioijaaGreatK26
set_option linter.all false
set_option maxRecDepth 100000
set_option maxHeartbeats 16000000
namespace Go.Proofs.YtkjdidieiioijaaGreat.B
open Go.RowKit Go.Sd Wl Bk L Tr Dk
attribute [local go_sem] Oper.semAt_some
set_option maxHeartbeats 32000000 in
theorem akC (wk:Wk)(cv vv:Value)(w:World)(h:PR w cv vv wk)(hbr:nU wk):Calls Tryz.prog 21 #[wkV cv vv wk] w (iW w):=by
 obtain⟨W,hW⟩:=aG (w.alloc (wkO cv vv wk))
 obtain⟨e,bW,z⟩:=boxedB hW
 obtain⟨q0,q1,q2,q3,q4,q5,q6,q7,q8,q9⟩:=uu e
 have nS:=ai (h.mono bW)
 have eh:=ai e
 obtain⟨ca,cc,rfl,-,-⟩:=h.cons.els
 obtain⟨va,vc,rfl,hvm,-⟩:=h.aW.els
 unfold maxLen at hvm
 have hBw:=ai bW
 have hg:=az W
 obtain⟨t1,ht1⟩:=aG (wk.st.ok)
 have kSt:Hid (Calls Tryz.prog 66 #[RI (.slice ca wk.st.cons.length cc) wk.st] W (dI (.bool t1) W)):=ai ((ahw wk.st _ W nS.out.cons).mono fun e w' h=>h.lit ht1)
 have hrow:Hid (0<wk.aW.length->_):=ai (yB nS.out.aW.els)
 have G8:=ai hbr
 replace ht1:=ai ht1
 clear e bW h hbr
 cases t1
 . go_enter Tryz.func21,Tryz.ntmps21
   go_wp2_with (first|(go_at_call 66;(with_reducible refine ax kSt.out ?_);rintro e w3 ⟨rfl,hB3⟩;obtain⟨g,rfl⟩:=(Grow.self W).next hB3)|(go_at_call 67;(with_reducible refine ax (Ld (by assumption) _) ?_);rintro e w' ⟨rfl,rfl⟩))
   go_ret
   exact iW.mk (aj hBw.out g.h)
 cases h1:inB wk.aW.length 1 3
 . go_enter Tryz.func21,Tryz.ntmps21
   go_wp2_with (first|(go_at_call 66;(with_reducible refine ax kSt.out ?_);rintro e w3 ⟨rfl,hB3⟩;obtain⟨g,rfl⟩:=(Grow.self W).next hB3)|(go_at_call 67;(with_reducible refine ax (Ld (by assumption) _) ?_);rintro e w' ⟨rfl,rfl⟩))
   go_ret
   exact iW.mk (aj hBw.out g.h)
 cases h2:inB wk.long 2 24
 . go_enter Tryz.func21,Tryz.ntmps21
   go_wp2_with (first|(go_at_call 66;(with_reducible refine ax kSt.out ?_);rintro e w3 ⟨rfl,hB3⟩;obtain⟨g,rfl⟩:=(Grow.self W).next hB3)|(go_at_call 67;(with_reducible refine ax (Ld (by assumption) _) ?_);rintro e w' ⟨rfl,rfl⟩))
   go_ret
   exact iW.mk (aj hBw.out g.h)
 cases h3:inB wk.day 0 1000
 . go_enter Tryz.func21,Tryz.ntmps21
   go_wp2_with (first|(go_at_call 66;(with_reducible refine ax kSt.out ?_);rintro e w3 ⟨rfl,hB3⟩;obtain⟨g,rfl⟩:=(Grow.self W).next hB3)|(go_at_call 67;(with_reducible refine ax (Ld (by assumption) _) ?_);rintro e w' ⟨rfl,rfl⟩))
   go_ret
   exact iW.mk (aj hBw.out g.h)
 cases h4:inB wk.meter 0 100000
 . go_enter Tryz.func21,Tryz.ntmps21
   go_wp2_with (first|(go_at_call 66;(with_reducible refine ax kSt.out ?_);rintro e w3 ⟨rfl,hB3⟩;obtain⟨g,rfl⟩:=(Grow.self W).next hB3)|(go_at_call 67;(with_reducible refine ax (Ld (by assumption) _) ?_);rintro e w' ⟨rfl,rfl⟩))
   go_ret
   exact iW.mk (aj hBw.out g.h)
 go_enter Tryz.func21,Tryz.ntmps21
 go_wp2_with (first|(go_at_call 66;(with_reducible refine ax kSt.out ?_);rintro e w3 ⟨rfl,hB3⟩;obtain⟨g,rfl⟩:=(Grow.self W).next hB3)|(go_at_call 67;(with_reducible refine ax (Ld (by assumption) _) ?_);rintro e w' ⟨rfl,rfl⟩))
 clear h1 h2 h3 h4
 go_loopw [3] (fun i wr=>∃k:Nat,k<=wk.aW.length/\i=.int .i64 k/\∃g:Grow W,wr=g.x) (fun i _=>wk.aW.length - (intOf i).toNat)
 case atStart=>exact⟨0,by omega,rfl,g,rfl⟩
 case round =>
  obtain⟨k,hk,rfl,g,rfl⟩:=hrel
  by_cases hlt:k<wk.aW.length
  . obtain⟨b,off,cap',he,hbl,hx⟩:=hrow.out (by omega)
    cases he
    have hki:(0:Int)<=(k:Int)/\(k:Int)<wk.aW.length:=by omega
    have hld:=ai (hx k hlt g.x g.h)
    have hone:=ai (acM.one (nS.out.aW.ins k hlt).sl)
    clear hx
    obtain⟨g2,hg2⟩:=g.alloc (dcO (aQ wk.aW k))
    have hn:=World.alloc_heap_new g.x (dcO (aQ wk.aW k))
    rw[hg2] at hn
    have hins:=(nS.out.aW.ins k hlt).mono g2.h
    have hmb:=G8.out.Rq k hlt
    generalize aQ wk.aW k=d at *
    have zn:=(aF hn)
    have hrg:=ai fun(X:World) (hX:Below g2.x.heap.size g2.x X)=>Me (ak hX hn)
    obtain⟨n0,n1,n2,n3,n4,n5,n6,n7,n8,n9,n10,n11,n12,n13,n14,n15,n16,n17,n18,n19,n20,n21,n22,n23,n24,n25,n26,n27,n28,n29,n30,n31,n32,n33,n34,n35,n36,n37,n38,n39⟩:=Me hn
    have hX2:Below g2.x.heap.size g2.x g2.x:=Below.refl _ _
    obtain⟨t5,ht5⟩:=aG (d.c.ok)
    have kC:Hid (∀X,Below g2.x.heap.size g2.x X->Calls Tryz.prog 68 #[G.gm d.c] X (dI (.bool t5) X)):=ai fun X _=>(G.adV d.c X).mono fun e w' ⟨t',he,ht,hB⟩=>⟨by rw[he,<- ht.out,ht5],hB⟩
    obtain⟨t6,ht6⟩:=aG (d.s.ok)
    have kS:Hid (∀X,Below g2.x.heap.size g2.x X->Calls Tryz.prog 69 #[G.jF d.s] X (dI (.bool t6) X)):=ai fun X _=>(G.ahv d.s X).mono fun e w' ⟨t',he,ht,hB⟩=>⟨by rw[he,<- ht.out,ht6],hB⟩
    obtain⟨t7,ht7⟩:=aG (d.r.ok)
    have kO:Hid (∀X,Below g2.x.heap.size g2.x X->Calls Tryz.prog 70 #[G.Ll d.r] X (dI (.bool t7) X)):=ai fun X _=>(G.aqF d.r X).mono fun e w' ⟨t',he,ht,hB⟩=>⟨by rw[he,<- ht.out,ht7],hB⟩
    have kW:Hid (∀X,Below g2.x.heap.size g2.x X->Calls Tryz.prog 71 #[weV d.pv d.we] X fun e w'=>∃t:Bool,e=.returned (.bool t)/\(t=true->2<=d.we.aS/\d.we.aS<=8)/\Below X.heap.size X w'):=ai fun X hX=>aov d.we d.pv X (hins.parts.mono hX)
    have kM:Hid (∀X,Below g2.x.heap.size g2.x X->Calls Tryz.prog 72 #[JG d.sv d.vv d.mv d.ov d.m] X (iW X)):=ai fun X hX=>adu d.m _ _ _ _ X (hins.Rq.mono hX) hmb
    clear hn hins hmb ht5 ht6 ht7
    go_wp2_with (first|(refine dX rfl 54 _ rfl b (off+k*40) rfl (NG d) _ Tryz.underlying54 rfl (by show _=some 40;kernel_rfl) hld.out ?_)|(refine fA rfl 54 _ _ rfl rfl rfl (NG d) rfl _ _ (by show _=some 40;kernel_rfl) rfl hone.out ?_))
    refine ax (kC.out _ hX2) ?_
    rintro e w3 ⟨rfl,hB3⟩
    have lK:=aj hX2 hB3
    clear n0 n1 n2 n3 n4 n5 n6 n7 n8 n9 n10 n11 n12 n13 n14 n15 n16 n17 n18 n19 n20 n21 n22 n23 n24 n25 n26 n27 n28 n29 n30 n31 n32 n33 n34 n35 n36 n37 n38 n39
    obtain⟨n0,n1,n2,n3,n4,n5,n6,n7,n8,n9,n10,n11,n12,n13,n14,n15,n16,n17,n18,n19,n20,n21,n22,n23,n24,n25,n26,n27,n28,n29,n30,n31,n32,n33,n34,n35,n36,n37,n38,n39⟩:=hrg.out _ lK
    have zn3:=bM zn lK.size
    cases t5
    . go_wp2_with (fail)
      go_ret
      exact iW.mk (aj hBw.out (aj g2.h lK))
    cases t6
    . go_wp2_with (go_at_call 69;(with_reducible refine ax (kS.out _ lK) ?_);rintro e w4 ⟨rfl,hB4⟩;(have Ah:=aj lK hB4);clear n0 n1 n2 n3 n4 n5 n6 n7 n8 n9 n10 n11 n12 n13 n14 n15 n16 n17 n18 n19 n20 n21 n22 n23 n24 n25 n26 n27 n28 n29 n30 n31 n32 n33 n34 n35 n36 n37 n38 n39;obtain⟨n0,n1,n2,n3,n4,n5,n6,n7,n8,n9,n10,n11,n12,n13,n14,n15,n16,n17,n18,n19,n20,n21,n22,n23,n24,n25,n26,n27,n28,n29,n30,n31,n32,n33,n34,n35,n36,n37,n38,n39⟩:=hrg.out _ Ah;(have zn4:=bM zn Ah.size))
      go_ret
      exact iW.mk (aj hBw.out (aj g2.h Ah))
    cases h7:(d.r.kind != 3)
    case true =>
     go_wp2_with (go_at_call 69;(with_reducible refine ax (kS.out _ lK) ?_);rintro e w4 ⟨rfl,hB4⟩;(have Ah:=aj lK hB4);clear n0 n1 n2 n3 n4 n5 n6 n7 n8 n9 n10 n11 n12 n13 n14 n15 n16 n17 n18 n19 n20 n21 n22 n23 n24 n25 n26 n27 n28 n29 n30 n31 n32 n33 n34 n35 n36 n37 n38 n39;obtain⟨n0,n1,n2,n3,n4,n5,n6,n7,n8,n9,n10,n11,n12,n13,n14,n15,n16,n17,n18,n19,n20,n21,n22,n23,n24,n25,n26,n27,n28,n29,n30,n31,n32,n33,n34,n35,n36,n37,n38,n39⟩:=hrg.out _ Ah;(have zn4:=bM zn Ah.size))
     go_ret
     exact iW.mk (aj hBw.out (aj g2.h Ah))
    cases t7
    . go_wp2_with (first|(go_at_call 69;(with_reducible refine ax (kS.out _ lK) ?_);rintro e w4 ⟨rfl,hB4⟩;(have Ah:=aj lK hB4);clear n0 n1 n2 n3 n4 n5 n6 n7 n8 n9 n10 n11 n12 n13 n14 n15 n16 n17 n18 n19 n20 n21 n22 n23 n24 n25 n26 n27 n28 n29 n30 n31 n32 n33 n34 n35 n36 n37 n38 n39;obtain⟨n0,n1,n2,n3,n4,n5,n6,n7,n8,n9,n10,n11,n12,n13,n14,n15,n16,n17,n18,n19,n20,n21,n22,n23,n24,n25,n26,n27,n28,n29,n30,n31,n32,n33,n34,n35,n36,n37,n38,n39⟩:=hrg.out _ Ah;(have zn4:=bM zn Ah.size))|(go_at_call 70;(with_reducible refine ax (kO.out _ Ah) ?_);rintro e w5 ⟨rfl,qH⟩;(have oK:=aj Ah qH);clear n0 n1 n2 n3 n4 n5 n6 n7 n8 n9 n10 n11 n12 n13 n14 n15 n16 n17 n18 n19 n20 n21 n22 n23 n24 n25 n26 n27 n28 n29 n30 n31 n32 n33 n34 n35 n36 n37 n38 n39;obtain⟨n0,n1,n2,n3,n4,n5,n6,n7,n8,n9,n10,n11,n12,n13,n14,n15,n16,n17,n18,n19,n20,n21,n22,n23,n24,n25,n26,n27,n28,n29,n30,n31,n32,n33,n34,n35,n36,n37,n38,n39⟩:=hrg.out _ oK;(have zn5:=bM zn oK.size)))
      go_ret
      exact iW.mk (aj hBw.out (aj g2.h oK))
    go_wp2_with (first|(go_at_call 69;(with_reducible refine ax (kS.out _ lK) ?_);rintro e w4 ⟨rfl,hB4⟩;(have Ah:=aj lK hB4);clear n0 n1 n2 n3 n4 n5 n6 n7 n8 n9 n10 n11 n12 n13 n14 n15 n16 n17 n18 n19 n20 n21 n22 n23 n24 n25 n26 n27 n28 n29 n30 n31 n32 n33 n34 n35 n36 n37 n38 n39;obtain⟨n0,n1,n2,n3,n4,n5,n6,n7,n8,n9,n10,n11,n12,n13,n14,n15,n16,n17,n18,n19,n20,n21,n22,n23,n24,n25,n26,n27,n28,n29,n30,n31,n32,n33,n34,n35,n36,n37,n38,n39⟩:=hrg.out _ Ah;(have zn4:=bM zn Ah.size))|(go_at_call 70;(with_reducible refine ax (kO.out _ Ah) ?_);rintro e w5 ⟨rfl,qH⟩;(have oK:=aj Ah qH);clear n0 n1 n2 n3 n4 n5 n6 n7 n8 n9 n10 n11 n12 n13 n14 n15 n16 n17 n18 n19 n20 n21 n22 n23 n24 n25 n26 n27 n28 n29 n30 n31 n32 n33 n34 n35 n36 n37 n38 n39;obtain⟨n0,n1,n2,n3,n4,n5,n6,n7,n8,n9,n10,n11,n12,n13,n14,n15,n16,n17,n18,n19,n20,n21,n22,n23,n24,n25,n26,n27,n28,n29,n30,n31,n32,n33,n34,n35,n36,n37,n38,n39⟩:=hrg.out _ oK;(have zn5:=bM zn oK.size)))
    refine ax (kW.out _ oK) ?_
    rintro e w6 ⟨tw,rfl,htw,Xj⟩
    have Jq:=aj oK Xj
    clear n0 n1 n2 n3 n4 n5 n6 n7 n8 n9 n10 n11 n12 n13 n14 n15 n16 n17 n18 n19 n20 n21 n22 n23 n24 n25 n26 n27 n28 n29 n30 n31 n32 n33 n34 n35 n36 n37 n38 n39
    obtain⟨n0,n1,n2,n3,n4,n5,n6,n7,n8,n9,n10,n11,n12,n13,n14,n15,n16,n17,n18,n19,n20,n21,n22,n23,n24,n25,n26,n27,n28,n29,n30,n31,n32,n33,n34,n35,n36,n37,n38,n39⟩:=hrg.out _ Jq
    cases tw
    . go_wp2_with (fail)
      go_ret
      exact iW.mk (aj hBw.out (aj g2.h Jq))
    obtain⟨r1,r2⟩:=htw rfl
    cases h8:inB d.line 2 (d.we.aS - 1)
    . go_wp2_with (go_at_call 67;(with_reducible refine ax (Ld (by assumption) _) ?_);rintro e w' ⟨rfl,rfl⟩)
      go_ret
      exact iW.mk (aj hBw.out (aj g2.h Jq))
    go_wp2_with (go_at_call 67;(with_reducible refine ax (Ld (by assumption) _) ?_);rintro e w' ⟨rfl,rfl⟩)
    refine ax (kM.out _ Jq) ?_
    rintro e w7 ⟨tm,rfl,hB7⟩
    have hX7:=aj Jq hB7
    cases tm
    . go_wp2_with (fail)
      go_ret
      exact iW.mk (aj hBw.out (aj g2.h hX7))
    obtain⟨g7,rfl⟩:=g2.next hX7
    go_wp2_with (fail)
    exact⟨⟨k+1,by omega,by go_num,g7,rfl⟩,by simp[intOf];omega⟩
  . obtain rfl:k=wk.aW.length:=by omega
    clear hrow
    go_wp2_with (fail)
    go_ret
    exact iW.mk (aj hBw.out g.h)
theorem YV (d:DC)(w:World)(h:MJ w d):Calls Tryz.prog 92 #[dcV d] w (dI (.bool (!d.ok)) w):=by
 obtain⟨W,hW⟩:=aG (w.alloc (dcO d))
 obtain⟨e,bW,z⟩:=boxedB hW
 have eh:=ai e
 have kC:=ai (YU d W (h.mono bW))
 have hb:=ai bW
 clear e bW h
 go_enter Tryz.func92,Tryz.ntmps92
 go_wp2_with (first|(refine wpList_load_row rfl 54 _ rfl w.heap.size rfl _ _ (0,0) _ eh.out Tryz.underlying54 rfl (by show _=some 40;kernel_rfl) ?_)|(go_at_call 93;(with_reducible refine ax kC.out ?_);rintro e w' ⟨t,rfl,ht,hB⟩))
 all_goals
  go_ret
  exact⟨by rw[ht.out];first|rfl|simp,aj hb.out hB⟩
theorem ac4 (wk:Wk)(cv vv:Value)(w:World)(h:PR w cv vv wk):Calls Tryz.prog 47 #[wkV cv vv wk] w (aB wk.ok w):=by
 obtain⟨W,hW⟩:=aG (w.alloc (wkO cv vv wk))
 obtain⟨e,bW,z⟩:=boxedB hW
 obtain⟨q0,q1,q2,q3,q4,q5,q6,q7,q8,q9⟩:=uu e
 have nS:=ai (h.mono bW)
 have hrg:=ai fun(X:World) (hX:Below W.heap.size W X)=>uu (ak hX e)
 obtain⟨ca,cc,rfl,-,-⟩:=h.cons.els
 obtain⟨va,vc,rfl,hvm,-⟩:=h.aW.els
 unfold maxLen at hvm
 have hBw:=ai bW
 obtain⟨b1,h1⟩:=aG (wk.st.ok)
 have kB:=ai (acS wk.st _ W nS.out.cons)
 obtain⟨b6,h6⟩:=aG ((wk.aW.any fun d=>!d.ok))
 have kC:Hid (∀X,Below W.heap.size W X->Calls Tryz.prog 91 #[.slice va wk.aW.length vc,.func (.func 92) #[] #[]] X (dI (.bool b6) X)) :=
  ai fun X hX=>((Wp _ wk.aW (fun d=>!d.ok) 92 #[] X (nS.out.mono hX).aW.els (fun args w=>by kernel_rfl) fun k hk Y hY=>YV _ Y (((nS.out.mono hX).aW.ins k hk).mono hY)).mono fun e w' h=>h.lit h6)
 have hex:Hid (wk.ok=(b1 && inB wk.aW.length 1 3 && inB wk.long 2 24 && inB wk.day 0 1000 && inB wk.meter 0 100000 && !b6)):=ai (by rw[<- h1,<- h6];rfl)
 rw[h1] at kB
 replace h1:=ai h1
 replace h6:=ai h6
 clear e bW h
 cases b1
 . have hf:Hid (wk.ok=false):=ai (by rw[hex.out];rfl)
   go_enter Tryz.func47,Tryz.ntmps47
   go_wp2_with (first|(go_at_call 90;(with_reducible refine ax kB.out ?_);rintro e w3 ⟨rfl,hB3⟩;(have lK:=hB3);(try simp only[Bool.false_eq_true,if_false,if_true]);clear q0 q1 q2 q3 q4 q5 q6 q7 q8 q9;obtain⟨q0,q1,q2,q3,q4,q5,q6,q7,q8,q9⟩:=hrg.out _ lK;(have zn3:=bM z lK.size))|(go_at_call 38;(with_reducible refine ax (nG (by assumption) _) ?_);rintro e w' ⟨rfl,rfl⟩))
   go_ret
   exact aB.mk hf.out (aj hBw.out lK)
 cases h2:inB wk.aW.length 1 3
 . have hf:Hid (wk.ok=false):=ai (by rw[hex.out,h2];simp)
   go_enter Tryz.func47,Tryz.ntmps47
   go_wp2_with (first|(go_at_call 90;(with_reducible refine ax kB.out ?_);rintro e w3 ⟨rfl,hB3⟩;(have lK:=hB3);(try simp only[Bool.false_eq_true,if_false,if_true]);clear q0 q1 q2 q3 q4 q5 q6 q7 q8 q9;obtain⟨q0,q1,q2,q3,q4,q5,q6,q7,q8,q9⟩:=hrg.out _ lK;(have zn3:=bM z lK.size))|(go_at_call 38;(with_reducible refine ax (nG (by assumption) _) ?_);rintro e w' ⟨rfl,rfl⟩))
   go_ret
   exact aB.mk hf.out (aj hBw.out lK)
 cases h3:inB wk.long 2 24
 . have hf:Hid (wk.ok=false):=ai (by rw[hex.out,h3];simp)
   go_enter Tryz.func47,Tryz.ntmps47
   go_wp2_with (first|(go_at_call 90;(with_reducible refine ax kB.out ?_);rintro e w3 ⟨rfl,hB3⟩;(have lK:=hB3);(try simp only[Bool.false_eq_true,if_false,if_true]);clear q0 q1 q2 q3 q4 q5 q6 q7 q8 q9;obtain⟨q0,q1,q2,q3,q4,q5,q6,q7,q8,q9⟩:=hrg.out _ lK;(have zn3:=bM z lK.size))|(go_at_call 38;(with_reducible refine ax (nG (by assumption) _) ?_);rintro e w' ⟨rfl,rfl⟩))
   go_ret
   exact aB.mk hf.out (aj hBw.out lK)
 cases h4:inB wk.day 0 1000
 . have hf:Hid (wk.ok=false):=ai (by rw[hex.out,h4];simp)
   go_enter Tryz.func47,Tryz.ntmps47
   go_wp2_with (first|(go_at_call 90;(with_reducible refine ax kB.out ?_);rintro e w3 ⟨rfl,hB3⟩;(have lK:=hB3);(try simp only[Bool.false_eq_true,if_false,if_true]);clear q0 q1 q2 q3 q4 q5 q6 q7 q8 q9;obtain⟨q0,q1,q2,q3,q4,q5,q6,q7,q8,q9⟩:=hrg.out _ lK;(have zn3:=bM z lK.size))|(go_at_call 38;(with_reducible refine ax (nG (by assumption) _) ?_);rintro e w' ⟨rfl,rfl⟩))
   go_ret
   exact aB.mk hf.out (aj hBw.out lK)
 cases h5:inB wk.meter 0 100000
 . have hf:Hid (wk.ok=false):=ai (by rw[hex.out,h5];simp)
   go_enter Tryz.func47,Tryz.ntmps47
   go_wp2_with (first|(go_at_call 90;(with_reducible refine ax kB.out ?_);rintro e w3 ⟨rfl,hB3⟩;(have lK:=hB3);(try simp only[Bool.false_eq_true,if_false,if_true]);clear q0 q1 q2 q3 q4 q5 q6 q7 q8 q9;obtain⟨q0,q1,q2,q3,q4,q5,q6,q7,q8,q9⟩:=hrg.out _ lK;(have zn3:=bM z lK.size))|(go_at_call 38;(with_reducible refine ax (nG (by assumption) _) ?_);rintro e w' ⟨rfl,rfl⟩))
   go_ret
   exact aB.mk hf.out (aj hBw.out lK)
 have hf:Hid (wk.ok = !b6):=ai (by rw[hex.out,h2,h3,h4,h5];simp)
 go_enter Tryz.func47,Tryz.ntmps47
 go_wp2_with (first|(go_at_call 90;(with_reducible refine ax kB.out ?_);rintro e w3 ⟨rfl,hB3⟩;(have lK:=hB3);(try simp only[Bool.false_eq_true,if_false,if_true]);clear q0 q1 q2 q3 q4 q5 q6 q7 q8 q9;obtain⟨q0,q1,q2,q3,q4,q5,q6,q7,q8,q9⟩:=hrg.out _ lK;(have zn3:=bM z lK.size))|(go_at_call 38;(with_reducible refine ax (nG (by assumption) _) ?_);rintro e w' ⟨rfl,rfl⟩)|(go_at_call 91;(with_reducible refine ax (kC.out _ lK) ?_);rintro e w4 ⟨rfl,hB4⟩;(have Ah:=aj lK hB4)))
 go_ret
 exact aB.mk hf.out (aj hBw.out Ah)
end Go.Proofs.YtkjdidieiioijaaGreat.B
namespace Go.Proofs.YtkjdidieiioijaaGreat.B
open Go.RowKit Go.Sd L
def jP (B:Nat)(P:World->Prop)(w:World):Prop:=∀w',Kept (fun j=>B<=j) w w'->P w'
theorem jP.now {B:Nat}{P:World->Prop}{w:World}(h:jP B P w):P w:=h w (Kept.refl _ _)
theorem jP.keep {B:Nat}{P:World->Prop}{w w':World}(h:jP B P w)(hk:Kept (fun j=>B<=j) w w'):jP B P w':=fun x hx=>h x (hk.trans hx)
theorem jP.mono {B:Nat}{P:World->Prop}{w w':World}(h:jP B P w)(hb:Below w.heap.size w w'):jP B P w':=h.keep (.all hb)
theorem jP.weak {B C:Nat}{P:World->Prop}{w:World}(hB:B<=C)(h:jP C P w):jP B P w:=fun x hx=>h x (hx.mono fun k _ hk=>Nat.le_trans hB hk)
theorem jP.imp {B:Nat}{P Q:World->Prop}{w:World}(h:jP B P w)(f:∀x,P x->Q x):jP B Q w:=fun x hx=>f x (h x hx)
theorem jP.els {α:Type}{m B:Nat}{enc:α->List Value}(hm:∀x,(enc x).length=m)(d:α){e:TypeId}{w:World}{v:Value}{xs:List α}(h:w.ownsRow B e m v xs.length (xs.flatMap enc))(h9:xs.length<=1000):jP B (fun x=>gG m enc d x v xs) w :=
 fun x hx=>Vl hm d (bT h hx fun j hj=>(eF h j hj).1) h9
structure Fz {α:Type}(m:Nat)(enc:α->List Value)(d:α)(sv:α->Value->α)(Inn:World->α->Prop)(e:TypeId)(B C:Nat)(v:Value)(xs:List α)(k:Nat)(ys:List α)(w:World):Prop where
 len:ys.length=xs.length
 own:w.ownsRow B e m v ys.length (ys.flatMap enc)
 lt:∀j,v.ownBlock=some j->j<C
 got:∀j,j<k->∃u,ys.getD j d=sv (xs.getD j d) u/\jP C (fun x=>Inn x (ys.getD j d)) w
 rest:∀j,k<=j->ys.getD j d=xs.getD j d
section
variable {α:Type}{m:Nat}{enc:α->List Value}{d:α}{sv:α->Value->α}{Inn:World->α->Prop}{e:TypeId}{B C:Nat}{v:Value}{xs ys:List α}{k:Nat}{w w1:World}
theorem Fz.start (h:w.ownsRow B e m v xs.length (xs.flatMap enc))(hC:w.heap.size<=C):Fz m enc d sv Inn e B C v xs 0 xs w :=
 ⟨rfl,h,fun j hj=>bM (eF h j hj).2 hC,fun j hj=>absurd hj (Nat.not_lt_zero j),fun _ _=>rfl⟩
theorem Fz.at (hm:∀x,(enc x).length=m)(h:Fz m enc d sv Inn e B C v xs k ys w)(hk:k<xs.length):∃g cap,v=.slice (some ⟨g,0,none⟩) xs.length cap/\B<=g/\g<C/\g<w.heap.size/\(∀i,w.frozen? ⟨g,i,none⟩=false)/\∀i u,(enc (xs.getD k d))[i]? = some u->w.cell? ⟨g,k*m+i,none⟩=some u:=by
 obtain⟨g,cap,rfl,hB,hlt,-,-,hf,hc⟩:=Qw h.own (by rw[h.len];omega)
 refine⟨g,cap,by rw[h.len],hB,h.lt g rfl,hlt,hf,fun i u hu=>hc _ _ ?_⟩
 have hi:i<m:=by
  have:=(List.getElem?_eq_some_iff.1 hu).1
  rw[hm] at this
  exact this
 rw[uF hm d ys k i (by rw[h.len];exact hk) hi,h.rest k (Nat.le_refl _)]
 exact hu
theorem Fz.next {fi:Nat}(hm:∀x,(enc x).length=m)(hsv:∀x u,enc (sv x u)=(enc x).set fi u)(hfi:fi<m){g n cap:Nat}(h:Fz m enc d sv Inn e B C (.slice (some ⟨g,0,none⟩) n cap) xs k ys w)(hk:k<xs.length)(hC:C<=w.heap.size)(hb:Below w.heap.size w w1){u:Value}(hI:jP w.heap.size (fun x=>Inn x (sv (xs.getD k d) u)) w1) :
    Fz m enc d sv Inn e B C (.slice (some ⟨g,0,none⟩) n cap) xs (k+1) (ys.set k (sv (xs.getD k d) u)) (w1.setCell ⟨g,k*m+fi,none⟩ u)/\Kept (fun j=>j≠g) w (w1.setCell ⟨g,k*m+fi,none⟩ u):=by
 have hg:g<C:=h.lt g rfl
 have hkk:Kept (fun j=>j≠g) w1 (w1.setCell ⟨g,k*m+fi,none⟩ u):=(Kept.refl _ _).setCell (Or.inl fun hn=>hn rfl) u
 have hky:k<ys.length:=by rw[h.len];exact hk
 refine⟨⟨by rw[List.length_set,h.len],?_,h.lt,?_,?_⟩,(Kept.all hb).trans hkk⟩
 . exact aca hm d (gU h.own hb) hky hfi (by rw[hsv,h.rest k (Nat.le_refl _)])
 . intro j hj
   by_cases hjk:j=k
   . subst hjk
     rw[show(ys.set j (sv (xs.getD j d) u)).getD j d=sv (xs.getD j d) u by simp[hky]]
     exact⟨u,rfl,(hI.keep (hkk.mono fun i _ (hi:w.heap.size<=i)=>by omega)).weak hC⟩
   . rw[show(ys.set k (sv (xs.getD k d) u)).getD j d=ys.getD j d by simp[List.getElem?_set_ne (Ne.symm hjk)]]
     obtain⟨u',hu,hs⟩:=h.got j (by omega)
     exact⟨u',hu,(hs.mono hb).keep (hkk.mono fun i _ (hi:C<=i)=>by omega)⟩
 . intro j hj
   rw[show(ys.set k (sv (xs.getD k d) u)).getD j d=ys.getD j d by simp[List.getElem?_set_ne (show k≠j by omega)]]
   exact h.rest j (by omega)
