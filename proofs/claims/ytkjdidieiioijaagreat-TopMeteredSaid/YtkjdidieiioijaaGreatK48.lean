/- Walks. -/
import Derived.Deep.RegionHeld3
import Derived.Deep.AppendLies
import Derived.Test.YtkjdidieiioijaaGreatK47
set_option linter.all false
set_option maxRecDepth 100000
set_option maxHeartbeats 16000000
namespace Go.Proofs.YtkjdidieiioijaaGreat.S
open Go.RowKit Go.Sd
theorem tkz {P:Program}{md:Region.Mode}{ops:Array Oper}{Q:Exit->Act->World->Prop}{S:World->Prop}{oi:Oper}{f:Nat}{listed:Array Bool}{a:Act}{w:World}(i:Nat)(v:Value)(hS:S w)(hy:∀w,S w->(execOp a.eval oi).run P w=.ok (.value v) w)(h:wpAnyH P md ops Q S f (listed.setIfInBounds i true) (a.put oi.dst v) w)(hi:ops[i]? = some oi:=by rfl)(hs:Region.noSelect ops=true:=by kernel_rfl)(hf:Region.free md ops listed i=true:=by kernel_rfl)(hr:(Region.ready md ops listed).contains i=true:=by kernel_rfl)(hQ:∀c a w,Q (.panic c) (a.put oi.dst v) w->Q (.panic c) a w:=by exact fun _ _ _ h=>h)(hw:Region.wanted oi (yielded ops a.tmps)=true:=by rfl):wpAnyH P md ops Q S (f+1) listed a w:=wpAnyH_take hi hs hf hr hQ (.inl ⟨hw,hy⟩) hS h
theorem afg:∀(args:Array Value)(w:World),(callFunc 115 args).run Tryz.prog w=.ok (.enter 115 args) w:=fun _ _=>by kernel_rfl
theorem agd:(Tryz.prog.info? 50).map (fun i=>(i.zero,i.size,i.bytes))=some (some (.slice none 0 0),1,24):=by kernel_rfl
theorem RD (z:Value)(n:Nat):madeCells #[z] n=Array.replicate n z:=by
 apply Array.ext
 . simp[madeCells]
 . intro i h1 h2
   simp[madeCells,Nat.mod_one]
theorem QX (w:World)(n:Nat)(hn:n<=1000):(Instr.makeSlice 167 (.int .i64 (n:Int)) (.int .i64 (n:Int))).run Tryz.prog w =
    .ok (.slice (some ⟨w.heap.size,0,none⟩) n n) (w.alloc (.cells (Array.replicate n (.slice none 0 0)) 50)):=by
 obtain⟨i0,hi,hz0,hz1,hz2⟩:=info_parts agd
 have h:=run_makeSlice (P:=Tryz.prog) w 167 50 i0 (.slice none 0 0) Tryz.underlying167 hi hz0 .i64 .i64 (n:Int) (n:Int) (by omega) (by omega) (by rw[hz1];omega) (by rw[hz2];omega) (by omega)
 rw[hz1,Int.toNat_natCast,Nat.mul_one,show Value.cells (.slice none 0 0)=#[.slice none 0 0] from rfl,RD] at h
 exact h
theorem aoy (lv mv:Value)(s:Sea.S)(aN:List Int)(wr:World)(B b bo bd j d f m:Nat)(bad:List Nat)(hl:dH wr lv mv s)(ok:Sea.Ok s)(hno:s.tH aN=true)(hd:d+1+j=s.days.length)
    (hf:(f:Int)<=s.space) (hT:TabAt B b bad wr (Sea.yh s.days.length (s.vals aN) (j+1) m)) (c0:wr.cell? ⟨bo,0,none⟩=some (.slice (some ⟨b,0,none⟩) (s.days.length+1) (s.days.length+1)))
    (c1:wr.cell? ⟨bd,0,none⟩=some (.int .i64 d)):∀u,u ∈ dC s d f (Sea.at0 aN d)->∀X,Below wr.heap.size wr X ->
     Calls Tryz.prog 115 (#[lH lv d f (Sea.at0 aN d) u] ++ #[.pointer (some ⟨bo,0,none⟩),.pointer (some ⟨bd,0,none⟩)]) X fun e X' =>
      e=.returned (.int .i64 (dW s d f (Sea.at0 aN d) (s.vals aN j) u))/\Below X.heap.size X X':=by
 intro u hu X hX
 obtain⟨vs,hM,-⟩:=hT
 have hsd:=ok.ab9
 have hsp:=ok.space
 have hlen:=Sea.mr s.days.length (s.vals aN) (j+1) m
 have ho:=Qv ok (by omega) hu
 have hat:Sea.fO (Sea.yh s.days.length (s.vals aN) (j+1) m) (d+1)=s.vals aN j:=by
  rw[Sea.yj _ _ _ _ _ (by omega),if_pos (by omega),show s.days.length - (d+1)=j by omega]
 have hrow:=(hM.own (d+1) (by rw[hlen];omega)).at
 rw[hat] at hrow
 have hcell:=(VD hM (i:=d+1) (by rw[hlen];omega)).1
 have hbd:=Pz ok aN j (by omega) (f+Sea.at0 aN d+u).toNat
 have hnb:=(IX ok hno).2 d (by omega)
 exact anE lv mv s d f (Sea.at0 aN d) u X bo bd (s.days.length+1) _ _ (s.vals aN j) (hl.mono hX) (by omega) ok (by omega) hnb ⟨ho.1,ho.2.1⟩ ho.2.2.2.1 (by rw[Sea.S.vals_length];omega)
  ⟨by have:=hbd.1;unfold Sea.never;omega,hbd.2⟩ (ae hX c0) (ae hX c1) ⟨b,0,_,rfl,by omega,by omega,by rw[Nat.zero_add];exact ae hX hcell⟩ (hrow.mono hX) (by omega)
theorem adL (lv mv:Value)(s:Sea.S)(w:World)(nv:Value)(aN:List Int)(hl:dH w lv mv s)(ok:Sea.Ok s)(hn:bK w nv aN)(hno:s.tH aN=true) :
    Calls Tryz.prog 60 #[lv,nv] w fun e w'=>∃b vs cap,e=.returned (.slice (some ⟨b,0,none⟩) (s.days.length+1) cap)/\iO w.heap.size b w' vs (s.proof aN)/\Below w.heap.size w w':=by
 have hl':=hl
 obtain⟨lb,rv,dv,rfl,⟨l0,l1,l2,l3,l4,l5,l6⟩,hlb,hr,⟨da,ac0,rfl,hdm,hdk⟩⟩:=hl'
 have hsd:=ok.ab9
 have hsp:=ok.space
 have hmk:=QX w (s.days.length+1) (by omega)
 rw[Int.natCast_add,Int.natCast_one] at hmk
 clear hr hdk
 go_enter Tryz.func60,Tryz.ntmps60
 go_wp2
 have hM0:=iO.made w.heap.size (s.days.length+1) w (Nat.le_refl _)
 rw[<- Sea.ad8 s.days.length (s.vals aN)] at hM0
 have hB0:Below w.heap.size w (w.alloc (.cells (Array.replicate (s.days.length+1) (.slice none 0 0)) 50)):=(Below.refl _ _).alloc (Nat.le_refl _) _
 have hM1:=hM0.mono ((Below.refl _ _).alloc (Nat.le_refl _) (.cells #[.slice (some ⟨w.heap.size,0,none⟩) (s.days.length+1) (s.days.length+1)] 167))
 have hB1:=hB0.alloc hB0.size (.cells #[.slice (some ⟨w.heap.size,0,none⟩) (s.days.length+1) (s.days.length+1)] 167)
 have Yz:=World.alloc_heap_new (w.alloc (.cells (Array.replicate (s.days.length+1) (.slice none 0 0)) 50)) (.cells #[.slice (some ⟨w.heap.size,0,none⟩) (s.days.length+1) (s.days.length+1)] 167)
 rw[World.size_alloc] at Yz
 generalize (w.alloc (.cells (Array.replicate (s.days.length+1) (.slice none 0 0)) 50)).alloc (.cells #[.slice (some ⟨w.heap.size,0,none⟩) (s.days.length+1) (s.days.length+1)] 167)=W at hM1 hB1 Yz ⊢
 clear hM0 hB0 hmk
 go_loopw [27] (fun i wr=>∃f:Nat,(f:Int)<=s.space+1/\i=.int .i64 f/\Hid (∃vs,iO w.heap.size w.heap.size wr vs (Sea.yh s.days.length (s.vals aN) 0 f)/\∀i,i<=s.days.length->(iJ vs i).ownBlock≠some (w.heap.size+1)) /\
  wr.heap[w.heap.size+1]? = some (.cells #[.slice (some ⟨w.heap.size,0,none⟩) (s.days.length+1) (s.days.length+1)] 167)/\Below w.heap.size w wr) (fun i _=>(s.space+1 - intOf i).toNat)
 case atStart=>exact⟨0,by omega,rfl,⟨_,hM1,fun i _=>by unfold iJ;by_cases h:i<s.days.length+1 <;> simp[h,Value.ownBlock]⟩,Yz,hB1⟩
 case round =>
  obtain⟨f,hf,rfl,hM,hbx,hB⟩:=hrel
  obtain⟨zb,db,fb⟩:=ah hbx
  have x0:=db 0
  simp only[List.getElem?_toArray,List.getElem?_cons_zero] at x0
  have m2:=ae hB l2
  have m3:=ae hB l3
  have m5:=ae hB l5
  by_cases hlt:(f:Int)<=s.space
  . cases he:Sea.inB f s.UE s.UC
    . have hc:=fun w1:World=>jv f s.UE s.UC w1
      rw[he] at hc
      go_wp2
      go_quiet ((go_at_call 110;exact Calls.quiet_of_same ((hc _).mono (by rintro e w' ⟨rfl,rfl⟩;exact⟨rfl,rfl⟩))))
      go_wp2
      obtain⟨vs,hM,hnb⟩:=hM.out
      have hMd:iO w.heap.size w.heap.size (wr.drewN nq) vs (Sea.yh s.days.length (s.vals aN) 0 f):=hM.mono (below_drewN (Below.refl _ _) _)
      have hBd:Below w.heap.size w (wr.drewN nq):=below_drewN hB _
      have af4:(wr.drewN nq).heap[w.heap.size+1]? = some (.cells #[.slice (some ⟨w.heap.size,0,none⟩) (s.days.length+1) (s.days.length+1)] 167):=((below_drewN (Below.refl wr.heap.size wr) nq).block _ zb).trans hbx
      clear hM hbx hB zb db fb x0 m2 m3 m5
      generalize wr.drewN nq=X at *
      obtain⟨zb,db,fb⟩:=ah af4
      have x0:=db 0
      have m5:=ae hBd l5
      have hlen:=Sea.mr s.days.length (s.vals aN) 0 f
      have hvl:s.days.length<vs.length:=by rw[hMd.len,hlen];omega
      have x1:X.cell? ⟨w.heap.size,s.days.length,none⟩=some (iJ vs s.days.length):=by
       rw[(ah hMd.heap).2.1];simp[iJ,hvl]
      have x2:X.frozen? ⟨w.heap.size,s.days.length,none⟩=false:=(ah hMd.heap).2.2 _
      have hown:=hMd.own s.days.length (by rw[hlen];omega)
      have Ql:Sea.fO (Sea.yh s.days.length (s.vals aN) 0 f) s.days.length=(s.vals aN 0).take f:=by rw[Sea.yj _ _ _ _ _ (Nat.le_refl _),if_neg (by omega),if_pos (by omega)]
      have hne:=hMd.ne s.days.length (by rw[hlen];omega)
      simp only[List.getElem?_toArray,List.getElem?_cons_zero] at x0
      obtain⟨i0,hi0,hz0,hz1,hz2⟩:=info_parts CZ
      generalize hv0:iJ vs s.days.length=v0 at *
      have asX:(0:Int)<=(s.days.length:Int):=Int.natCast_nonneg _
      have asY:(s.days.length:Int)<(s.days.length:Int)+1:=by omega
      have kx:∀(o:Obj) (b off:Nat) (v:Value),X.cell? ⟨b,off,none⟩=some v->(X.alloc o).drew.cell? ⟨b,off,none⟩=some v:=fun o b off v h=>ae (((Below.refl _ _).alloc (Nat.le_refl _) o).drew) h
      have fx:∀(o:Obj),(X.alloc o).drew.frozen? ⟨w.heap.size,s.days.length,none⟩=false:=fun o=>((((Below.refl X.heap.size X).alloc (Nat.le_refl _) o).drew).frozen (p:=⟨w.heap.size,s.days.length,none⟩) (by simp;omega)).trans x2
      have ab:v0.ownBlock≠some (w.heap.size+1):=by have:=hnb s.days.length (Nat.le_refl _);rwa [hv0] at this
      have al:v0.ownBlock≠some lb:=fun e=>by have:=hown.lt _ e;omega
      have hl1:(Sea.fO (Sea.yh s.days.length (s.vals aN) 0 f) s.days.length).length+1<=maxLen:=by rw[Ql,List.length_take];unfold maxLen;omega
      have hl2:((Sea.fO (Sea.yh s.days.length (s.vals aN) 0 f) s.days.length).length+1)*8<=140737488355328:=by rw[Ql,List.length_take];omega
      refine wp_region_noPanic ?_
      refine wp_region_held_drew (S:=(fun w'=>w'.cell? ⟨w.heap.size+1,0,none⟩=some (.slice (some ⟨w.heap.size,0,none⟩) (s.days.length+1) (s.days.length+1))/\w'.cell? ⟨lb,5,none⟩=some (.slice da s.days.length ac0))) (by kernel_rfl) ?_ (fun hHeld=>?_)
      . first|(first
         | (go_keep;done)
         | exact⟨kx _ _ _ _ x0,kx _ _ _ _ m5⟩
         | (go_split_ands
            refine⟨?_,?_⟩
            . (rw[hgrow.cell_far _ (by simp;omega) (Ne.symm ab)];assumption)
            . (rw[hgrow.cell_far _ (by simp;omega) (Ne.symm al)];assumption))
         | exact⟨(World.cell?_setCell_far _ _ _ _ (by show w.heap.size≠w.heap.size+1;omega)).trans hcb,(World.cell?_setCell_far _ _ _ _ (by show w.heap.size≠lb;omega)).trans hcl⟩)|(dsimp only;(first
         | (go_keep;done)
         | exact⟨kx _ _ _ _ x0,kx _ _ _ _ m5⟩
         | (go_split_ands
            refine⟨?_,?_⟩
            . (rw[hgrow.cell_far _ (by simp;omega) (Ne.symm ab)];assumption)
            . (rw[hgrow.cell_far _ (by simp;omega) (Ne.symm al)];assumption))
         | exact⟨(World.cell?_setCell_far _ _ _ _ (by show w.heap.size≠w.heap.size+1;omega)).trans hcb,(World.cell?_setCell_far _ _ _ _ (by show w.heap.size≠lb;omega)).trans hcl⟩))
      refine tkz 0 ?_ (by assumption) ?_ ?_
      rotate_left
      . intro w hSw;(try dsimp only at hSw);go_simp;(try with_reducible rfl)
      try simp only[aI]
      refine tkz 1 ?_ (by assumption) ?_ ?_
      rotate_left
      . intro w hSw;(try dsimp only at hSw);go_simp;(try with_reducible rfl)
      try simp only[aI]
      refine tkz 2 ?_ (by assumption) ?_ ?_
      rotate_left
      . intro w hSw;(try dsimp only at hSw);go_simp;(try with_reducible rfl)
      try simp only[aI]
      refine tkz 3 ?_ (by assumption) ?_ ?_
      rotate_left
      . intro w hSw;(try dsimp only at hSw);go_simp;(try with_reducible rfl)
      try simp only[aI]
      refine tkz 4 ?_ (by assumption) ?_ ?_
      rotate_left
      . intro w hSw;(try dsimp only at hSw);go_simp;(try with_reducible rfl)
      try simp only[aI]
      refine tkz 5 ?_ (by assumption) ?_ ?_
      rotate_left
      . intro w hSw;(try dsimp only at hSw);go_simp;(try with_reducible rfl)
      try simp only[aI]
      refine tkz 6 ?_ (by assumption) ?_ ?_
      rotate_left
      . intro w hSw;(try dsimp only at hSw);go_simp;(try with_reducible rfl)
      try simp only[aI]
      refine tkz 7 ?_ (by assumption) ?_ ?_
      rotate_left
      . intro w hSw;(try dsimp only at hSw);go_simp;(try with_reducible rfl)
      try simp only[aI]
      refine tkz 8 ?_ (by assumption) ?_ ?_
      rotate_left
      . intro w hSw;(try dsimp only at hSw);go_simp;(try with_reducible rfl)
      try simp only[aI]
      refine tkz 9 ?_ (by assumption) ?_ ?_
      rotate_left
      . intro w hSw;(try dsimp only at hSw);go_simp;(try with_reducible rfl)
      try simp only[aI]
      refine tkz 10 ?_ (by assumption) ?_ ?_
      rotate_left
      . intro w hSw;(try dsimp only at hSw);go_simp;(try with_reducible rfl)
      try simp only[aI]
      refine tkz 11 ?_ (by assumption) ?_ ?_
      rotate_left
      . intro w hSw;(try dsimp only at hSw);go_simp;(try with_reducible rfl)
      try simp only[aI]
      refine tkz 12 ?_ (by assumption) ?_ ?_
      rotate_left
      . intro w hSw;(try dsimp only at hSw);go_simp;(try with_reducible rfl)
      try simp only[aI]
      refine tkz 13 ?_ (by assumption) ?_ ?_
      rotate_left
      . intro w hSw;(try dsimp only at hSw);go_simp;(try with_reducible rfl)
      try simp only[aI]
      refine tkz 14 ?_ (by assumption) ?_ ?_
      rotate_left
      . intro w hSw;(try dsimp only at hSw);go_simp;(try with_reducible rfl)
      try simp only[aI]
      refine tkz 16 ?_ (by assumption) ?_ ?_
      rotate_left
      . intro w hSw;(try dsimp only at hSw);go_simp;(try with_reducible rfl)
      try simp only[aI]
      refine wpAnyH_ready (rs:=[15,17]) (by kernel_rfl) (by simp) ?_
      refine AllReadyH.cons rfl (fun K hK=>?ahZ) (AllReadyH.cons rfl (fun K hK=>?ah0) AllReadyH.nil)
      case' ahZ =>
       go_simp
       refine hK.out _ _ ?_ (fun bG=>?_)
       . first|(first
         | (go_keep;done)
         | exact⟨kx _ _ _ _ x0,kx _ _ _ _ m5⟩
         | (go_split_ands
            refine⟨?_,?_⟩
            . (rw[hgrow.cell_far _ (by simp;omega) (Ne.symm ab)];assumption)
            . (rw[hgrow.cell_far _ (by simp;omega) (Ne.symm al)];assumption))
         | exact⟨(World.cell?_setCell_far _ _ _ _ (by show w.heap.size≠w.heap.size+1;omega)).trans hcb,(World.cell?_setCell_far _ _ _ _ (by show w.heap.size≠lb;omega)).trans hcl⟩)|(dsimp only;(first
         | (go_keep;done)
         | exact⟨kx _ _ _ _ x0,kx _ _ _ _ m5⟩
         | (go_split_ands
            refine⟨?_,?_⟩
            . (rw[hgrow.cell_far _ (by simp;omega) (Ne.symm ab)];assumption)
            . (rw[hgrow.cell_far _ (by simp;omega) (Ne.symm al)];assumption))
         | exact⟨(World.cell?_setCell_far _ _ _ _ (by show w.heap.size≠w.heap.size+1;omega)).trans hcb,(World.cell?_setCell_far _ _ _ _ (by show w.heap.size≠lb;omega)).trans hcl⟩))
       clear hK K hHeld
       have hHeld:=bG
       clear bG
       try simp only[aI]
       refine wpAnyH_ready (rs:=[17]) (by kernel_rfl) (by simp) ?_
       refine AllReadyH.cons rfl (fun K hK=>?_) AllReadyH.nil
       go_simp
       refine hK.out _ _ ?_ (fun bG=>?_)
       . first|(first
         | (go_keep;done)
         | exact⟨kx _ _ _ _ x0,kx _ _ _ _ m5⟩
         | (go_split_ands
            refine⟨?_,?_⟩
            . (rw[hgrow.cell_far _ (by simp;omega) (Ne.symm ab)];assumption)
            . (rw[hgrow.cell_far _ (by simp;omega) (Ne.symm al)];assumption))
         | exact⟨(World.cell?_setCell_far _ _ _ _ (by show w.heap.size≠w.heap.size+1;omega)).trans hcb,(World.cell?_setCell_far _ _ _ _ (by show w.heap.size≠lb;omega)).trans hcl⟩)|(dsimp only;(first
         | (go_keep;done)
         | exact⟨kx _ _ _ _ x0,kx _ _ _ _ m5⟩
         | (go_split_ands
            refine⟨?_,?_⟩
            . (rw[hgrow.cell_far _ (by simp;omega) (Ne.symm ab)];assumption)
            . (rw[hgrow.cell_far _ (by simp;omega) (Ne.symm al)];assumption))
         | exact⟨(World.cell?_setCell_far _ _ _ _ (by show w.heap.size≠w.heap.size+1;omega)).trans hcb,(World.cell?_setCell_far _ _ _ _ (by show w.heap.size≠lb;omega)).trans hcl⟩))
       clear hK K hHeld
       have hHeld:=bG
       clear bG
       try simp only[aI]
       refine wpAnyH_ready (rs:=[18]) (by kernel_rfl) (by simp) ?_
       refine AllReadyH.cons rfl (fun K hK=>?_) AllReadyH.nil
       ((refine step_append_lies _ (by rfl) _ _ _ (by rfl) w.heap.size 3 i0 _ 1 8 Tryz.underlying50 hi0 hz0 hz1 hz2 rfl (by decide) v0 _ _ (by rfl) ((World.ownsRow.alloc hown _).drew) ⟨X.heap.size,0,none⟩ 1 1 [.int .i64 1000000000000000] (by rfl) (by rfl) (World.news_of_block (cs:=#[.int .i64 1000000000000000]) (t:=3) (fr:=(0,0)) (heap_alloc_new X _)) (by simp[Value.oneCell']) (by decide) hl1 hl2 (by simp;omega) (X.heap.size+1) (by simp) ?_;intro gg Qi w1 hown1 hgrow hat MN;have hcb:=(hgrow.cell_far _ (by simp;omega) (Ne.symm ab)).trans (kx _ _ _ _ x0);have hcl:=(hgrow.cell_far _ (by simp;omega) (Ne.symm al)).trans (kx _ _ _ _ m5);have hcz:w1.cell? ⟨w.heap.size,s.days.length,none⟩=some v0:=(hgrow.cell_far _ (by simp;omega) (Ne.symm hne)).trans (kx _ _ _ _ x1);have hfz:w1.frozen? ⟨w.heap.size,s.days.length,none⟩=false:=(hgrow.frozen_far _ (by simp;omega) (Ne.symm hne)).trans (fx _)))
       refine hK.out _ _ ?_ (fun bG=>?_)
       . first|(first
         | (go_keep;done)
         | exact⟨kx _ _ _ _ x0,kx _ _ _ _ m5⟩
         | (go_split_ands
            refine⟨?_,?_⟩
            . (rw[hgrow.cell_far _ (by simp;omega) (Ne.symm ab)];assumption)
            . (rw[hgrow.cell_far _ (by simp;omega) (Ne.symm al)];assumption))
         | exact⟨(World.cell?_setCell_far _ _ _ _ (by show w.heap.size≠w.heap.size+1;omega)).trans hcb,(World.cell?_setCell_far _ _ _ _ (by show w.heap.size≠lb;omega)).trans hcl⟩)|(dsimp only;(first
         | (go_keep;done)
         | exact⟨kx _ _ _ _ x0,kx _ _ _ _ m5⟩
         | (go_split_ands
            refine⟨?_,?_⟩
            . (rw[hgrow.cell_far _ (by simp;omega) (Ne.symm ab)];assumption)
            . (rw[hgrow.cell_far _ (by simp;omega) (Ne.symm al)];assumption))
         | exact⟨(World.cell?_setCell_far _ _ _ _ (by show w.heap.size≠w.heap.size+1;omega)).trans hcb,(World.cell?_setCell_far _ _ _ _ (by show w.heap.size≠lb;omega)).trans hcl⟩))
       clear hK K hHeld
       have hHeld:=bG
       clear bG
       try simp only[aI]
       refine tkz 19 ?_ (by assumption) ?_ ?_
       rotate_left
       . intro w hSw;(try dsimp only at hSw);go_simp;(try with_reducible rfl)
       try simp only[aI]
       refine wpAnyH_ready (rs:=[20]) (by kernel_rfl) (by simp) ?_
       refine AllReadyH.cons rfl (fun K hK=>?_) AllReadyH.nil
       go_simp
       refine hK.out _ _ ?_ (fun bG=>?_)
       . first|(first
         | (go_keep;done)
         | exact⟨kx _ _ _ _ x0,kx _ _ _ _ m5⟩
         | (go_split_ands
            refine⟨?_,?_⟩
            . (rw[hgrow.cell_far _ (by simp;omega) (Ne.symm ab)];assumption)
            . (rw[hgrow.cell_far _ (by simp;omega) (Ne.symm al)];assumption))
         | exact⟨(World.cell?_setCell_far _ _ _ _ (by show w.heap.size≠w.heap.size+1;omega)).trans hcb,(World.cell?_setCell_far _ _ _ _ (by show w.heap.size≠lb;omega)).trans hcl⟩)|(dsimp only;(first
         | (go_keep;done)
         | exact⟨kx _ _ _ _ x0,kx _ _ _ _ m5⟩
         | (go_split_ands
            refine⟨?_,?_⟩
            . (rw[hgrow.cell_far _ (by simp;omega) (Ne.symm ab)];assumption)
            . (rw[hgrow.cell_far _ (by simp;omega) (Ne.symm al)];assumption))
         | exact⟨(World.cell?_setCell_far _ _ _ _ (by show w.heap.size≠w.heap.size+1;omega)).trans hcb,(World.cell?_setCell_far _ _ _ _ (by show w.heap.size≠lb;omega)).trans hcl⟩))
       clear hK K hHeld
       have hHeld:=bG
       clear bG
       try simp only[aI]
       refine wpAnyH_done (by kernel_rfl) ?_ _
       refine NoPanic.normal ?_
      case' ah0 =>
       go_simp
       refine hK.out _ _ ?_ (fun bG=>?_)
       . first|(first
         | (go_keep;done)
         | exact⟨kx _ _ _ _ x0,kx _ _ _ _ m5⟩
         | (go_split_ands
            refine⟨?_,?_⟩
            . (rw[hgrow.cell_far _ (by simp;omega) (Ne.symm ab)];assumption)
            . (rw[hgrow.cell_far _ (by simp;omega) (Ne.symm al)];assumption))
         | exact⟨(World.cell?_setCell_far _ _ _ _ (by show w.heap.size≠w.heap.size+1;omega)).trans hcb,(World.cell?_setCell_far _ _ _ _ (by show w.heap.size≠lb;omega)).trans hcl⟩)|(dsimp only;(first
         | (go_keep;done)
         | exact⟨kx _ _ _ _ x0,kx _ _ _ _ m5⟩
         | (go_split_ands
            refine⟨?_,?_⟩
            . (rw[hgrow.cell_far _ (by simp;omega) (Ne.symm ab)];assumption)
            . (rw[hgrow.cell_far _ (by simp;omega) (Ne.symm al)];assumption))
         | exact⟨(World.cell?_setCell_far _ _ _ _ (by show w.heap.size≠w.heap.size+1;omega)).trans hcb,(World.cell?_setCell_far _ _ _ _ (by show w.heap.size≠lb;omega)).trans hcl⟩))
       clear hK K hHeld
       have hHeld:=bG
       clear bG
       try simp only[aI]
       refine wpAnyH_ready (rs:=[15]) (by kernel_rfl) (by simp) ?_
       refine AllReadyH.cons rfl (fun K hK=>?_) AllReadyH.nil
       go_simp
       refine hK.out _ _ ?_ (fun bG=>?_)
       . first|(first
         | (go_keep;done)
         | exact⟨kx _ _ _ _ x0,kx _ _ _ _ m5⟩
         | (go_split_ands
            refine⟨?_,?_⟩
            . (rw[hgrow.cell_far _ (by simp;omega) (Ne.symm ab)];assumption)
            . (rw[hgrow.cell_far _ (by simp;omega) (Ne.symm al)];assumption))
         | exact⟨(World.cell?_setCell_far _ _ _ _ (by show w.heap.size≠w.heap.size+1;omega)).trans hcb,(World.cell?_setCell_far _ _ _ _ (by show w.heap.size≠lb;omega)).trans hcl⟩)|(dsimp only;(first
         | (go_keep;done)
         | exact⟨kx _ _ _ _ x0,kx _ _ _ _ m5⟩
         | (go_split_ands
            refine⟨?_,?_⟩
            . (rw[hgrow.cell_far _ (by simp;omega) (Ne.symm ab)];assumption)
            . (rw[hgrow.cell_far _ (by simp;omega) (Ne.symm al)];assumption))
         | exact⟨(World.cell?_setCell_far _ _ _ _ (by show w.heap.size≠w.heap.size+1;omega)).trans hcb,(World.cell?_setCell_far _ _ _ _ (by show w.heap.size≠lb;omega)).trans hcl⟩))
       clear hK K hHeld
       have hHeld:=bG
       clear bG
       try simp only[aI]
       refine wpAnyH_ready (rs:=[18]) (by kernel_rfl) (by simp) ?_
       refine AllReadyH.cons rfl (fun K hK=>?_) AllReadyH.nil
       ((refine step_append_lies _ (by rfl) _ _ _ (by rfl) w.heap.size 3 i0 _ 1 8 Tryz.underlying50 hi0 hz0 hz1 hz2 rfl (by decide) v0 _ _ (by rfl) ((World.ownsRow.alloc hown _).drew) ⟨X.heap.size,0,none⟩ 1 1 [.int .i64 1000000000000000] (by rfl) (by rfl) (World.news_of_block (cs:=#[.int .i64 1000000000000000]) (t:=3) (fr:=(0,0)) (heap_alloc_new X _)) (by simp[Value.oneCell']) (by decide) hl1 hl2 (by simp;omega) (X.heap.size+1) (by simp) ?_;intro gg Qi w1 hown1 hgrow hat MN;have hcb:=(hgrow.cell_far _ (by simp;omega) (Ne.symm ab)).trans (kx _ _ _ _ x0);have hcl:=(hgrow.cell_far _ (by simp;omega) (Ne.symm al)).trans (kx _ _ _ _ m5);have hcz:w1.cell? ⟨w.heap.size,s.days.length,none⟩=some v0:=(hgrow.cell_far _ (by simp;omega) (Ne.symm hne)).trans (kx _ _ _ _ x1);have hfz:w1.frozen? ⟨w.heap.size,s.days.length,none⟩=false:=(hgrow.frozen_far _ (by simp;omega) (Ne.symm hne)).trans (fx _)))
       refine hK.out _ _ ?_ (fun bG=>?_)
       . first|(first
         | (go_keep;done)
         | exact⟨kx _ _ _ _ x0,kx _ _ _ _ m5⟩
         | (go_split_ands
            refine⟨?_,?_⟩
            . (rw[hgrow.cell_far _ (by simp;omega) (Ne.symm ab)];assumption)
            . (rw[hgrow.cell_far _ (by simp;omega) (Ne.symm al)];assumption))
         | exact⟨(World.cell?_setCell_far _ _ _ _ (by show w.heap.size≠w.heap.size+1;omega)).trans hcb,(World.cell?_setCell_far _ _ _ _ (by show w.heap.size≠lb;omega)).trans hcl⟩)|(dsimp only;(first
         | (go_keep;done)
         | exact⟨kx _ _ _ _ x0,kx _ _ _ _ m5⟩
         | (go_split_ands
            refine⟨?_,?_⟩
            . (rw[hgrow.cell_far _ (by simp;omega) (Ne.symm ab)];assumption)
            . (rw[hgrow.cell_far _ (by simp;omega) (Ne.symm al)];assumption))
         | exact⟨(World.cell?_setCell_far _ _ _ _ (by show w.heap.size≠w.heap.size+1;omega)).trans hcb,(World.cell?_setCell_far _ _ _ _ (by show w.heap.size≠lb;omega)).trans hcl⟩))
       clear hK K hHeld
       have hHeld:=bG
       clear bG
       try simp only[aI]
       refine tkz 19 ?_ (by assumption) ?_ ?_
       rotate_left
       . intro w hSw;(try dsimp only at hSw);go_simp;(try with_reducible rfl)
       try simp only[aI]
       refine wpAnyH_ready (rs:=[20]) (by kernel_rfl) (by simp) ?_
       refine AllReadyH.cons rfl (fun K hK=>?_) AllReadyH.nil
       go_simp
       refine hK.out _ _ ?_ (fun bG=>?_)
       . first|(first
         | (go_keep;done)
         | exact⟨kx _ _ _ _ x0,kx _ _ _ _ m5⟩
         | (go_split_ands
            refine⟨?_,?_⟩
            . (rw[hgrow.cell_far _ (by simp;omega) (Ne.symm ab)];assumption)
            . (rw[hgrow.cell_far _ (by simp;omega) (Ne.symm al)];assumption))
         | exact⟨(World.cell?_setCell_far _ _ _ _ (by show w.heap.size≠w.heap.size+1;omega)).trans hcb,(World.cell?_setCell_far _ _ _ _ (by show w.heap.size≠lb;omega)).trans hcl⟩)|(dsimp only;(first
         | (go_keep;done)
         | exact⟨kx _ _ _ _ x0,kx _ _ _ _ m5⟩
         | (go_split_ands
            refine⟨?_,?_⟩
            . (rw[hgrow.cell_far _ (by simp;omega) (Ne.symm ab)];assumption)
            . (rw[hgrow.cell_far _ (by simp;omega) (Ne.symm al)];assumption))
         | exact⟨(World.cell?_setCell_far _ _ _ _ (by show w.heap.size≠w.heap.size+1;omega)).trans hcb,(World.cell?_setCell_far _ _ _ _ (by show w.heap.size≠lb;omega)).trans hcl⟩))
       clear hK K hHeld
       have hHeld:=bG
       clear bG
       try simp only[aI]
       refine wpAnyH_done (by kernel_rfl) ?_ _
       refine NoPanic.normal ?_
      all_goals
       go_wp2
       have hgX:X.grownBy w1 v0.ownBlock:=grownBy_trans (World.grownBy_alloc X _ _) ⟨hgrow.os,hgrow.tape,hgrow.output,hgrow.size,hgrow.block⟩
       have hmore:=iO.more (y:=1000000000000000) (v':=.slice (some ⟨gg,0,none⟩) ((Sea.fO (Sea.yh s.days.length (s.vals aN) 0 f) s.days.length).length+1) Qi) hMd (i:=s.days.length) (by rw[hlen];omega) (by rw[hv0];exact hgX) (yH (y:=1000000000000000) hown1) (by rw[hv0];rcases hat with e|e;exact .inl e.symm;exact .inr ⟨gg,rfl,by omega⟩)
       have ht:=Sea.Rh s.days.length (s.vals aN) 0 f 1000000000000000 (by omega) (by show s.last[f]? = _;unfold Sea.S.last;rw[List.getElem?_map,List.getElem?_range (by omega)];show some (s.Gl f)=_;unfold Sea.S.Gl;rw[he];rfl)
       rw[Nat.sub_zero] at ht
       rw[ht] at hmore
       have hBn:Below w.heap.size w (w1.setCell ⟨w.heap.size,s.days.length,none⟩ (.slice (some ⟨gg,0,none⟩) ((Sea.fO (Sea.yh s.days.length (s.vals aN) 0 f) s.days.length).length+1) Qi)) :=
        (hBd.grown hgX hBd.size (fun k e=>(hown.lt k e).1)).setCell (p:=⟨w.heap.size,s.days.length,none⟩) (Nat.le_refl _) _
       have hbn:(w1.setCell ⟨w.heap.size,s.days.length,none⟩ (.slice (some ⟨gg,0,none⟩) ((Sea.fO (Sea.yh s.days.length (s.vals aN) 0 f) s.days.length).length+1) Qi)).heap[w.heap.size+1]? = _ :=
        (Below.heap_setCell _ _ _ _ (by show w.heap.size+1≠w.heap.size;omega)).trans ((hgX.block _ zb (Ne.symm ab)).trans af4)
       simp only[Ql,List.length_take] at hmore hBn hbn
       refine⟨⟨f+1,by omega,by go_num,⟨_,hmore,?_⟩,hbn,hBn⟩,by simp[intOf];omega⟩
       intro i hi
       rw[pU hvl]
       by_cases hin:i=s.days.length
       . rw[if_pos hin]
         show some gg≠_
         rcases hat with e|e
         . rw[<- e];exact ab
         . intro h;cases h;omega
       . rw[if_neg hin];exact hnb i hi
    . have hc:=fun w1:World=>jv f s.UE s.UC w1
      rw[he] at hc
      go_wp2
      go_quiet ((go_at_call 110;exact Calls.quiet_of_same ((hc _).mono (by rintro e w' ⟨rfl,rfl⟩;exact⟨rfl,rfl⟩))))
      go_wp2
      obtain⟨vs,hM,hnb⟩:=hM.out
      have hMd:iO w.heap.size w.heap.size (wr.drewN nq) vs (Sea.yh s.days.length (s.vals aN) 0 f):=hM.mono (below_drewN (Below.refl _ _) _)
      have hBd:Below w.heap.size w (wr.drewN nq):=below_drewN hB _
      have af4:(wr.drewN nq).heap[w.heap.size+1]? = some (.cells #[.slice (some ⟨w.heap.size,0,none⟩) (s.days.length+1) (s.days.length+1)] 167):=((below_drewN (Below.refl wr.heap.size wr) nq).block _ zb).trans hbx
      clear hM hbx hB zb db fb x0 m2 m3 m5
      generalize wr.drewN nq=X at *
      obtain⟨zb,db,fb⟩:=ah af4
      have x0:=db 0
      have m5:=ae hBd l5
      have hlen:=Sea.mr s.days.length (s.vals aN) 0 f
      have hvl:s.days.length<vs.length:=by rw[hMd.len,hlen];omega
      have x1:X.cell? ⟨w.heap.size,s.days.length,none⟩=some (iJ vs s.days.length):=by
       rw[(ah hMd.heap).2.1];simp[iJ,hvl]
      have x2:X.frozen? ⟨w.heap.size,s.days.length,none⟩=false:=(ah hMd.heap).2.2 _
      have hown:=hMd.own s.days.length (by rw[hlen];omega)
      have Ql:Sea.fO (Sea.yh s.days.length (s.vals aN) 0 f) s.days.length=(s.vals aN 0).take f:=by rw[Sea.yj _ _ _ _ _ (Nat.le_refl _),if_neg (by omega),if_pos (by omega)]
      have hne:=hMd.ne s.days.length (by rw[hlen];omega)
      simp only[List.getElem?_toArray,List.getElem?_cons_zero] at x0
      obtain⟨i0,hi0,hz0,hz1,hz2⟩:=info_parts CZ
      generalize hv0:iJ vs s.days.length=v0 at *
      have asX:(0:Int)<=(s.days.length:Int):=Int.natCast_nonneg _
      have asY:(s.days.length:Int)<(s.days.length:Int)+1:=by omega
      have kx:∀(o:Obj) (b off:Nat) (v:Value),X.cell? ⟨b,off,none⟩=some v->(X.alloc o).drew.cell? ⟨b,off,none⟩=some v:=fun o b off v h=>ae (((Below.refl _ _).alloc (Nat.le_refl _) o).drew) h
      have fx:∀(o:Obj),(X.alloc o).drew.frozen? ⟨w.heap.size,s.days.length,none⟩=false:=fun o=>((((Below.refl X.heap.size X).alloc (Nat.le_refl _) o).drew).frozen (p:=⟨w.heap.size,s.days.length,none⟩) (by simp;omega)).trans x2
      have ab:v0.ownBlock≠some (w.heap.size+1):=by have:=hnb s.days.length (Nat.le_refl _);rwa [hv0] at this
      have al:v0.ownBlock≠some lb:=fun e=>by have:=hown.lt _ e;omega
      have hl1:(Sea.fO (Sea.yh s.days.length (s.vals aN) 0 f) s.days.length).length+1<=maxLen:=by rw[Ql,List.length_take];unfold maxLen;omega
      have hl2:((Sea.fO (Sea.yh s.days.length (s.vals aN) 0 f) s.days.length).length+1)*8<=140737488355328:=by rw[Ql,List.length_take];omega
      refine wp_region_noPanic ?_
      refine wp_region_held_drew (S:=(fun w'=>w'.cell? ⟨w.heap.size+1,0,none⟩=some (.slice (some ⟨w.heap.size,0,none⟩) (s.days.length+1) (s.days.length+1))/\w'.cell? ⟨lb,5,none⟩=some (.slice da s.days.length ac0))) (by kernel_rfl) ?_ (fun hHeld=>?_)
      . first|(first
         | (go_keep;done)
         | exact⟨kx _ _ _ _ x0,kx _ _ _ _ m5⟩
         | (go_split_ands
            refine⟨?_,?_⟩
            . (rw[hgrow.cell_far _ (by simp;omega) (Ne.symm ab)];assumption)
            . (rw[hgrow.cell_far _ (by simp;omega) (Ne.symm al)];assumption))
         | exact⟨(World.cell?_setCell_far _ _ _ _ (by show w.heap.size≠w.heap.size+1;omega)).trans hcb,(World.cell?_setCell_far _ _ _ _ (by show w.heap.size≠lb;omega)).trans hcl⟩)|(dsimp only;(first
         | (go_keep;done)
         | exact⟨kx _ _ _ _ x0,kx _ _ _ _ m5⟩
         | (go_split_ands
            refine⟨?_,?_⟩
            . (rw[hgrow.cell_far _ (by simp;omega) (Ne.symm ab)];assumption)
            . (rw[hgrow.cell_far _ (by simp;omega) (Ne.symm al)];assumption))
         | exact⟨(World.cell?_setCell_far _ _ _ _ (by show w.heap.size≠w.heap.size+1;omega)).trans hcb,(World.cell?_setCell_far _ _ _ _ (by show w.heap.size≠lb;omega)).trans hcl⟩))
      refine tkz 0 ?_ (by assumption) ?_ ?_
      rotate_left
      . intro w hSw;(try dsimp only at hSw);go_simp;(try with_reducible rfl)
      try simp only[aI]
      refine tkz 1 ?_ (by assumption) ?_ ?_
      rotate_left
      . intro w hSw;(try dsimp only at hSw);go_simp;(try with_reducible rfl)
      try simp only[aI]
      refine tkz 2 ?_ (by assumption) ?_ ?_
      rotate_left
      . intro w hSw;(try dsimp only at hSw);go_simp;(try with_reducible rfl)
      try simp only[aI]
      refine tkz 3 ?_ (by assumption) ?_ ?_
      rotate_left
      . intro w hSw;(try dsimp only at hSw);go_simp;(try with_reducible rfl)
      try simp only[aI]
      refine tkz 4 ?_ (by assumption) ?_ ?_
      rotate_left
      . intro w hSw;(try dsimp only at hSw);go_simp;(try with_reducible rfl)
      try simp only[aI]
      refine tkz 5 ?_ (by assumption) ?_ ?_
      rotate_left
      . intro w hSw;(try dsimp only at hSw);go_simp;(try with_reducible rfl)
      try simp only[aI]
      refine tkz 6 ?_ (by assumption) ?_ ?_
      rotate_left
      . intro w hSw;(try dsimp only at hSw);go_simp;(try with_reducible rfl)
      try simp only[aI]
      refine tkz 7 ?_ (by assumption) ?_ ?_
      rotate_left
      . intro w hSw;(try dsimp only at hSw);go_simp;(try with_reducible rfl)
      try simp only[aI]
      refine tkz 8 ?_ (by assumption) ?_ ?_
      rotate_left
      . intro w hSw;(try dsimp only at hSw);go_simp;(try with_reducible rfl)
      try simp only[aI]
      refine tkz 9 ?_ (by assumption) ?_ ?_
      rotate_left
      . intro w hSw;(try dsimp only at hSw);go_simp;(try with_reducible rfl)
      try simp only[aI]
      refine tkz 10 ?_ (by assumption) ?_ ?_
      rotate_left
      . intro w hSw;(try dsimp only at hSw);go_simp;(try with_reducible rfl)
      try simp only[aI]
      refine tkz 11 ?_ (by assumption) ?_ ?_
      rotate_left
      . intro w hSw;(try dsimp only at hSw);go_simp;(try with_reducible rfl)
      try simp only[aI]
      refine tkz 12 ?_ (by assumption) ?_ ?_
      rotate_left
      . intro w hSw;(try dsimp only at hSw);go_simp;(try with_reducible rfl)
      try simp only[aI]
      refine tkz 13 ?_ (by assumption) ?_ ?_
      rotate_left
      . intro w hSw;(try dsimp only at hSw);go_simp;(try with_reducible rfl)
      try simp only[aI]
      refine tkz 14 ?_ (by assumption) ?_ ?_
      rotate_left
      . intro w hSw;(try dsimp only at hSw);go_simp;(try with_reducible rfl)
      try simp only[aI]
      refine tkz 16 ?_ (by assumption) ?_ ?_
      rotate_left
      . intro w hSw;(try dsimp only at hSw);go_simp;(try with_reducible rfl)
      try simp only[aI]
      refine wpAnyH_ready (rs:=[15,17]) (by kernel_rfl) (by simp) ?_
      refine AllReadyH.cons rfl (fun K hK=>?aee) (AllReadyH.cons rfl (fun K hK=>?aeg) AllReadyH.nil)
      case' aee =>
       go_simp
       refine hK.out _ _ ?_ (fun bG=>?_)
       . first|(first
         | (go_keep;done)
         | exact⟨kx _ _ _ _ x0,kx _ _ _ _ m5⟩
         | (go_split_ands
            refine⟨?_,?_⟩
            . (rw[hgrow.cell_far _ (by simp;omega) (Ne.symm ab)];assumption)
            . (rw[hgrow.cell_far _ (by simp;omega) (Ne.symm al)];assumption))
         | exact⟨(World.cell?_setCell_far _ _ _ _ (by show w.heap.size≠w.heap.size+1;omega)).trans hcb,(World.cell?_setCell_far _ _ _ _ (by show w.heap.size≠lb;omega)).trans hcl⟩)|(dsimp only;(first
         | (go_keep;done)
         | exact⟨kx _ _ _ _ x0,kx _ _ _ _ m5⟩
         | (go_split_ands
            refine⟨?_,?_⟩
            . (rw[hgrow.cell_far _ (by simp;omega) (Ne.symm ab)];assumption)
            . (rw[hgrow.cell_far _ (by simp;omega) (Ne.symm al)];assumption))
         | exact⟨(World.cell?_setCell_far _ _ _ _ (by show w.heap.size≠w.heap.size+1;omega)).trans hcb,(World.cell?_setCell_far _ _ _ _ (by show w.heap.size≠lb;omega)).trans hcl⟩))
       clear hK K hHeld
       have hHeld:=bG
       clear bG
       try simp only[aI]
       refine wpAnyH_ready (rs:=[17]) (by kernel_rfl) (by simp) ?_
       refine AllReadyH.cons rfl (fun K hK=>?_) AllReadyH.nil
       go_simp
       refine hK.out _ _ ?_ (fun bG=>?_)
       . first|(first
         | (go_keep;done)
         | exact⟨kx _ _ _ _ x0,kx _ _ _ _ m5⟩
         | (go_split_ands
            refine⟨?_,?_⟩
            . (rw[hgrow.cell_far _ (by simp;omega) (Ne.symm ab)];assumption)
            . (rw[hgrow.cell_far _ (by simp;omega) (Ne.symm al)];assumption))
         | exact⟨(World.cell?_setCell_far _ _ _ _ (by show w.heap.size≠w.heap.size+1;omega)).trans hcb,(World.cell?_setCell_far _ _ _ _ (by show w.heap.size≠lb;omega)).trans hcl⟩)|(dsimp only;(first
         | (go_keep;done)
         | exact⟨kx _ _ _ _ x0,kx _ _ _ _ m5⟩
         | (go_split_ands
            refine⟨?_,?_⟩
            . (rw[hgrow.cell_far _ (by simp;omega) (Ne.symm ab)];assumption)
            . (rw[hgrow.cell_far _ (by simp;omega) (Ne.symm al)];assumption))
         | exact⟨(World.cell?_setCell_far _ _ _ _ (by show w.heap.size≠w.heap.size+1;omega)).trans hcb,(World.cell?_setCell_far _ _ _ _ (by show w.heap.size≠lb;omega)).trans hcl⟩))
       clear hK K hHeld
       have hHeld:=bG
       clear bG
       try simp only[aI]
       refine wpAnyH_ready (rs:=[18]) (by kernel_rfl) (by simp) ?_
       refine AllReadyH.cons rfl (fun K hK=>?_) AllReadyH.nil
       ((refine step_append_lies _ (by rfl) _ _ _ (by rfl) w.heap.size 3 i0 _ 1 8 Tryz.underlying50 hi0 hz0 hz1 hz2 rfl (by decide) v0 _ _ (by rfl) ((World.ownsRow.alloc hown _).drew) ⟨X.heap.size,0,none⟩ 1 1 [.int .i64 0] (by rfl) (by rfl) (World.news_of_block (cs:=#[.int .i64 0]) (t:=3) (fr:=(0,0)) (heap_alloc_new X _)) (by simp[Value.oneCell']) (by decide) hl1 hl2 (by simp;omega) (X.heap.size+1) (by simp) ?_;intro gg Qi w1 hown1 hgrow hat MN;have hcb:=(hgrow.cell_far _ (by simp;omega) (Ne.symm ab)).trans (kx _ _ _ _ x0);have hcl:=(hgrow.cell_far _ (by simp;omega) (Ne.symm al)).trans (kx _ _ _ _ m5);have hcz:w1.cell? ⟨w.heap.size,s.days.length,none⟩=some v0:=(hgrow.cell_far _ (by simp;omega) (Ne.symm hne)).trans (kx _ _ _ _ x1);have hfz:w1.frozen? ⟨w.heap.size,s.days.length,none⟩=false:=(hgrow.frozen_far _ (by simp;omega) (Ne.symm hne)).trans (fx _)))
       refine hK.out _ _ ?_ (fun bG=>?_)
       . first|(first
         | (go_keep;done)
         | exact⟨kx _ _ _ _ x0,kx _ _ _ _ m5⟩
         | (go_split_ands
            refine⟨?_,?_⟩
            . (rw[hgrow.cell_far _ (by simp;omega) (Ne.symm ab)];assumption)
            . (rw[hgrow.cell_far _ (by simp;omega) (Ne.symm al)];assumption))
         | exact⟨(World.cell?_setCell_far _ _ _ _ (by show w.heap.size≠w.heap.size+1;omega)).trans hcb,(World.cell?_setCell_far _ _ _ _ (by show w.heap.size≠lb;omega)).trans hcl⟩)|(dsimp only;(first
         | (go_keep;done)
         | exact⟨kx _ _ _ _ x0,kx _ _ _ _ m5⟩
         | (go_split_ands
            refine⟨?_,?_⟩
            . (rw[hgrow.cell_far _ (by simp;omega) (Ne.symm ab)];assumption)
            . (rw[hgrow.cell_far _ (by simp;omega) (Ne.symm al)];assumption))
         | exact⟨(World.cell?_setCell_far _ _ _ _ (by show w.heap.size≠w.heap.size+1;omega)).trans hcb,(World.cell?_setCell_far _ _ _ _ (by show w.heap.size≠lb;omega)).trans hcl⟩))
       clear hK K hHeld
       have hHeld:=bG
       clear bG
       try simp only[aI]
       refine tkz 19 ?_ (by assumption) ?_ ?_
       rotate_left
       . intro w hSw;(try dsimp only at hSw);go_simp;(try with_reducible rfl)
       try simp only[aI]
       refine wpAnyH_ready (rs:=[20]) (by kernel_rfl) (by simp) ?_
       refine AllReadyH.cons rfl (fun K hK=>?_) AllReadyH.nil
       go_simp
       refine hK.out _ _ ?_ (fun bG=>?_)
       . first|(first
         | (go_keep;done)
         | exact⟨kx _ _ _ _ x0,kx _ _ _ _ m5⟩
         | (go_split_ands
            refine⟨?_,?_⟩
            . (rw[hgrow.cell_far _ (by simp;omega) (Ne.symm ab)];assumption)
            . (rw[hgrow.cell_far _ (by simp;omega) (Ne.symm al)];assumption))
         | exact⟨(World.cell?_setCell_far _ _ _ _ (by show w.heap.size≠w.heap.size+1;omega)).trans hcb,(World.cell?_setCell_far _ _ _ _ (by show w.heap.size≠lb;omega)).trans hcl⟩)|(dsimp only;(first
         | (go_keep;done)
         | exact⟨kx _ _ _ _ x0,kx _ _ _ _ m5⟩
         | (go_split_ands
            refine⟨?_,?_⟩
            . (rw[hgrow.cell_far _ (by simp;omega) (Ne.symm ab)];assumption)
            . (rw[hgrow.cell_far _ (by simp;omega) (Ne.symm al)];assumption))
         | exact⟨(World.cell?_setCell_far _ _ _ _ (by show w.heap.size≠w.heap.size+1;omega)).trans hcb,(World.cell?_setCell_far _ _ _ _ (by show w.heap.size≠lb;omega)).trans hcl⟩))
       clear hK K hHeld
       have hHeld:=bG
       clear bG
       try simp only[aI]
       refine wpAnyH_done (by kernel_rfl) ?_ _
       refine NoPanic.normal ?_
      case' aeg =>
       go_simp
       refine hK.out _ _ ?_ (fun bG=>?_)
       . first|(first
         | (go_keep;done)
         | exact⟨kx _ _ _ _ x0,kx _ _ _ _ m5⟩
         | (go_split_ands
            refine⟨?_,?_⟩
            . (rw[hgrow.cell_far _ (by simp;omega) (Ne.symm ab)];assumption)
            . (rw[hgrow.cell_far _ (by simp;omega) (Ne.symm al)];assumption))
         | exact⟨(World.cell?_setCell_far _ _ _ _ (by show w.heap.size≠w.heap.size+1;omega)).trans hcb,(World.cell?_setCell_far _ _ _ _ (by show w.heap.size≠lb;omega)).trans hcl⟩)|(dsimp only;(first
         | (go_keep;done)
         | exact⟨kx _ _ _ _ x0,kx _ _ _ _ m5⟩
         | (go_split_ands
            refine⟨?_,?_⟩
            . (rw[hgrow.cell_far _ (by simp;omega) (Ne.symm ab)];assumption)
            . (rw[hgrow.cell_far _ (by simp;omega) (Ne.symm al)];assumption))
         | exact⟨(World.cell?_setCell_far _ _ _ _ (by show w.heap.size≠w.heap.size+1;omega)).trans hcb,(World.cell?_setCell_far _ _ _ _ (by show w.heap.size≠lb;omega)).trans hcl⟩))
       clear hK K hHeld
       have hHeld:=bG
       clear bG
       try simp only[aI]
       refine wpAnyH_ready (rs:=[15]) (by kernel_rfl) (by simp) ?_
       refine AllReadyH.cons rfl (fun K hK=>?_) AllReadyH.nil
       go_simp
       refine hK.out _ _ ?_ (fun bG=>?_)
       . first|(first
         | (go_keep;done)
         | exact⟨kx _ _ _ _ x0,kx _ _ _ _ m5⟩
         | (go_split_ands
            refine⟨?_,?_⟩
            . (rw[hgrow.cell_far _ (by simp;omega) (Ne.symm ab)];assumption)
            . (rw[hgrow.cell_far _ (by simp;omega) (Ne.symm al)];assumption))
         | exact⟨(World.cell?_setCell_far _ _ _ _ (by show w.heap.size≠w.heap.size+1;omega)).trans hcb,(World.cell?_setCell_far _ _ _ _ (by show w.heap.size≠lb;omega)).trans hcl⟩)|(dsimp only;(first
         | (go_keep;done)
         | exact⟨kx _ _ _ _ x0,kx _ _ _ _ m5⟩
         | (go_split_ands
            refine⟨?_,?_⟩
            . (rw[hgrow.cell_far _ (by simp;omega) (Ne.symm ab)];assumption)
            . (rw[hgrow.cell_far _ (by simp;omega) (Ne.symm al)];assumption))
         | exact⟨(World.cell?_setCell_far _ _ _ _ (by show w.heap.size≠w.heap.size+1;omega)).trans hcb,(World.cell?_setCell_far _ _ _ _ (by show w.heap.size≠lb;omega)).trans hcl⟩))
       clear hK K hHeld
       have hHeld:=bG
       clear bG
       try simp only[aI]
       refine wpAnyH_ready (rs:=[18]) (by kernel_rfl) (by simp) ?_
       refine AllReadyH.cons rfl (fun K hK=>?_) AllReadyH.nil
       ((refine step_append_lies _ (by rfl) _ _ _ (by rfl) w.heap.size 3 i0 _ 1 8 Tryz.underlying50 hi0 hz0 hz1 hz2 rfl (by decide) v0 _ _ (by rfl) ((World.ownsRow.alloc hown _).drew) ⟨X.heap.size,0,none⟩ 1 1 [.int .i64 0] (by rfl) (by rfl) (World.news_of_block (cs:=#[.int .i64 0]) (t:=3) (fr:=(0,0)) (heap_alloc_new X _)) (by simp[Value.oneCell']) (by decide) hl1 hl2 (by simp;omega) (X.heap.size+1) (by simp) ?_;intro gg Qi w1 hown1 hgrow hat MN;have hcb:=(hgrow.cell_far _ (by simp;omega) (Ne.symm ab)).trans (kx _ _ _ _ x0);have hcl:=(hgrow.cell_far _ (by simp;omega) (Ne.symm al)).trans (kx _ _ _ _ m5);have hcz:w1.cell? ⟨w.heap.size,s.days.length,none⟩=some v0:=(hgrow.cell_far _ (by simp;omega) (Ne.symm hne)).trans (kx _ _ _ _ x1);have hfz:w1.frozen? ⟨w.heap.size,s.days.length,none⟩=false:=(hgrow.frozen_far _ (by simp;omega) (Ne.symm hne)).trans (fx _)))
       refine hK.out _ _ ?_ (fun bG=>?_)
       . first|(first
         | (go_keep;done)
         | exact⟨kx _ _ _ _ x0,kx _ _ _ _ m5⟩
         | (go_split_ands
            refine⟨?_,?_⟩
            . (rw[hgrow.cell_far _ (by simp;omega) (Ne.symm ab)];assumption)
            . (rw[hgrow.cell_far _ (by simp;omega) (Ne.symm al)];assumption))
         | exact⟨(World.cell?_setCell_far _ _ _ _ (by show w.heap.size≠w.heap.size+1;omega)).trans hcb,(World.cell?_setCell_far _ _ _ _ (by show w.heap.size≠lb;omega)).trans hcl⟩)|(dsimp only;(first
         | (go_keep;done)
         | exact⟨kx _ _ _ _ x0,kx _ _ _ _ m5⟩
         | (go_split_ands
            refine⟨?_,?_⟩
            . (rw[hgrow.cell_far _ (by simp;omega) (Ne.symm ab)];assumption)
            . (rw[hgrow.cell_far _ (by simp;omega) (Ne.symm al)];assumption))
         | exact⟨(World.cell?_setCell_far _ _ _ _ (by show w.heap.size≠w.heap.size+1;omega)).trans hcb,(World.cell?_setCell_far _ _ _ _ (by show w.heap.size≠lb;omega)).trans hcl⟩))
       clear hK K hHeld
       have hHeld:=bG
       clear bG
       try simp only[aI]
       refine tkz 19 ?_ (by assumption) ?_ ?_
       rotate_left
       . intro w hSw;(try dsimp only at hSw);go_simp;(try with_reducible rfl)
       try simp only[aI]
       refine wpAnyH_ready (rs:=[20]) (by kernel_rfl) (by simp) ?_
       refine AllReadyH.cons rfl (fun K hK=>?_) AllReadyH.nil
       go_simp
       refine hK.out _ _ ?_ (fun bG=>?_)
       . first|(first
         | (go_keep;done)
         | exact⟨kx _ _ _ _ x0,kx _ _ _ _ m5⟩
         | (go_split_ands
            refine⟨?_,?_⟩
            . (rw[hgrow.cell_far _ (by simp;omega) (Ne.symm ab)];assumption)
            . (rw[hgrow.cell_far _ (by simp;omega) (Ne.symm al)];assumption))
         | exact⟨(World.cell?_setCell_far _ _ _ _ (by show w.heap.size≠w.heap.size+1;omega)).trans hcb,(World.cell?_setCell_far _ _ _ _ (by show w.heap.size≠lb;omega)).trans hcl⟩)|(dsimp only;(first
         | (go_keep;done)
         | exact⟨kx _ _ _ _ x0,kx _ _ _ _ m5⟩
         | (go_split_ands
            refine⟨?_,?_⟩
            . (rw[hgrow.cell_far _ (by simp;omega) (Ne.symm ab)];assumption)
            . (rw[hgrow.cell_far _ (by simp;omega) (Ne.symm al)];assumption))
         | exact⟨(World.cell?_setCell_far _ _ _ _ (by show w.heap.size≠w.heap.size+1;omega)).trans hcb,(World.cell?_setCell_far _ _ _ _ (by show w.heap.size≠lb;omega)).trans hcl⟩))
       clear hK K hHeld
       have hHeld:=bG
       clear bG
       try simp only[aI]
       refine wpAnyH_done (by kernel_rfl) ?_ _
       refine NoPanic.normal ?_
      all_goals
       go_wp2
       have hgX:X.grownBy w1 v0.ownBlock:=grownBy_trans (World.grownBy_alloc X _ _) ⟨hgrow.os,hgrow.tape,hgrow.output,hgrow.size,hgrow.block⟩
       have hmore:=iO.more (y:=0) (v':=.slice (some ⟨gg,0,none⟩) ((Sea.fO (Sea.yh s.days.length (s.vals aN) 0 f) s.days.length).length+1) Qi) hMd (i:=s.days.length) (by rw[hlen];omega) (by rw[hv0];exact hgX) (yH (y:=0) hown1) (by rw[hv0];rcases hat with e|e;exact .inl e.symm;exact .inr ⟨gg,rfl,by omega⟩)
       have ht:=Sea.Rh s.days.length (s.vals aN) 0 f 0 (by omega) (by show s.last[f]? = _;unfold Sea.S.last;rw[List.getElem?_map,List.getElem?_range (by omega)];show some (s.Gl f)=_;unfold Sea.S.Gl;rw[he];rfl)
       rw[Nat.sub_zero] at ht
       rw[ht] at hmore
       have hBn:Below w.heap.size w (w1.setCell ⟨w.heap.size,s.days.length,none⟩ (.slice (some ⟨gg,0,none⟩) ((Sea.fO (Sea.yh s.days.length (s.vals aN) 0 f) s.days.length).length+1) Qi)) :=
        (hBd.grown hgX hBd.size (fun k e=>(hown.lt k e).1)).setCell (p:=⟨w.heap.size,s.days.length,none⟩) (Nat.le_refl _) _
       have hbn:(w1.setCell ⟨w.heap.size,s.days.length,none⟩ (.slice (some ⟨gg,0,none⟩) ((Sea.fO (Sea.yh s.days.length (s.vals aN) 0 f) s.days.length).length+1) Qi)).heap[w.heap.size+1]? = _ :=
        (Below.heap_setCell _ _ _ _ (by show w.heap.size+1≠w.heap.size;omega)).trans ((hgX.block _ zb (Ne.symm ab)).trans af4)
       simp only[Ql,List.length_take] at hmore hBn hbn
       refine⟨⟨f+1,by omega,by go_num,⟨_,hmore,?_⟩,hbn,hBn⟩,by simp[intOf];omega⟩
       intro i hi
       rw[pU hvl]
       by_cases hin:i=s.days.length
       . rw[if_pos hin]
         show some gg≠_
         rcases hat with e|e
         . rw[<- e];exact ab
         . intro h;cases h;omega
       . rw[if_neg hin];exact hnb i hi
  . have hfe:f=(s.space+1).toNat:=by omega
    have hT:TabAt w.heap.size w.heap.size [w.heap.size+1] wr (Sea.yh s.days.length (s.vals aN) 1 0):=by
     obtain⟨vs,h1,h2⟩:=hM.out
     refine⟨vs,by rw[<- Sea.Ym _ _ 0 f (by omega) (by rw[Sea.S.vals_length];omega)];exact h1,fun i hi k hk=>?_⟩
     rw[Sea.mr] at hi
     rw[List.mem_singleton.1 hk]
     exact h2 i (by omega)
    replace hT:=ai hT
    replace hfe:=ai hfe
    clear hM
    go_wp2
    generalize hX:wr.alloc (.cells #[.int .i64 ((s.days.length:Int) - 1)] 3)=X
    have F_:Below wr.heap.size wr X:=by rw[<- hX];exact(Below.refl _ _).alloc (Nat.le_refl _) _
    have hbd:X.heap[wr.heap.size]? = some (.cells #[.int .i64 ((s.days.length:Int) - 1)] 3):=by rw[<- hX];exact World.alloc_heap_new _ _
    have hTX:TabAt w.heap.size w.heap.size [wr.heap.size,w.heap.size+1] X (Sea.yh s.days.length (s.vals aN) 1 0):=(hT.out.add (Nat.le_refl _)).mono F_
    have hBw:Below w.heap.size w X:=hB.trans (F_.mono hB.size)
    have adi:X.heap[w.heap.size+1]? = _:=(F_.block _ zb).trans hbx
    have hlow:w.heap.size+1<wr.heap.size:=zb
    clear hX F_ hT hB hbx zb db fb x0 m2 m3 m5
    generalize wr.heap.size=bd at *
    go_loopw [8] (fun p wr=>∃(j bd:Nat),j<=s.days.length/\p=.pointer (some ⟨bd,0,none⟩)/\w.heap.size+1<bd/\wr.heap[bd]? = some (.cells #[.int .i64 ((s.days.length:Int) - 1 - j)] 3) /\
     Hid (TabAt w.heap.size w.heap.size [bd,w.heap.size+1] wr (Sea.yh s.days.length (s.vals aN) (j+1) 0)) /\
     wr.heap[w.heap.size+1]? = some (.cells #[.slice (some ⟨w.heap.size,0,none⟩) (s.days.length+1) (s.days.length+1)] 167)/\Below w.heap.size w wr)
     (fun p wr=>(YN p wr+1).toNat)
    case atStart=>exact⟨0,bd,by omega,rfl,hlow,by rw[hbd];simp,hTX,adi,hBw⟩
    case round =>
     obtain⟨j,bd,hj,rfl,hlow,hbx,hT,Yz,hB⟩:=hrel
     clear hTX adi hBw hbd
     obtain⟨zb,db,fb⟩:=ah hbx
     have x0:=db 0
     obtain⟨zo,do_,fo⟩:=ah Yz
     have y0:=do_ 0
     simp only[List.getElem?_toArray,List.getElem?_cons_zero] at x0 y0
     have m0:=ae hB l0
     by_cases hjn:j<s.days.length
     . obtain⟨d,hd⟩:=Int.eq_ofNat_of_zero_le (show(0:Int)<=(s.days.length:Int) - 1 - j by omega)
       rw[hd] at x0 hbx
       have hd2:d+1+j=s.days.length:=by omega
       replace hd:=ai hd
       replace hd2:=ai hd2
       clear db fb do_ fo
       have hMO:Hid (YN (.pointer (some ⟨bd,0,none⟩)) wr=d):=Sr x0
       have hnb:=(IX ok hno).2
       have hnl:=ai (IX ok hno).1
       go_wp2
       go_loopw [82] (fun i wr=>∃f:Nat,(f:Int)<=s.space+1/\i=.int .i64 f/\wr.heap[bd]? = some (.cells #[.int .i64 d] 3) /\
        Hid (TabAt w.heap.size w.heap.size [bd,w.heap.size+1] wr (Sea.yh s.days.length (s.vals aN) (j+1) f)) /\
        wr.heap[w.heap.size+1]? = some (.cells #[.slice (some ⟨w.heap.size,0,none⟩) (s.days.length+1) (s.days.length+1)] 167)/\Below w.heap.size w wr)
        (fun i _=>(s.space+1 - intOf i).toNat)
       case atStart=>exact⟨0,by omega,rfl,hbx,hT,Yz,hB⟩
       case round =>
        clear hT Yz hB hbx x0 y0 m0 zo zb
        rename_i wr2
        obtain⟨f2,hf2,rfl,hbx,hT,Yz,hB⟩:=hrel
        obtain⟨zb,db,fb⟩:=ah hbx
        have x0:=db 0
        obtain⟨zo,do_,fo⟩:=ah Yz
        have y0:=do_ 0
        simp only[List.getElem?_toArray,List.getElem?_cons_zero] at x0 y0
        have hl2:=hl.mono hB
        have hn2:=hn.mono hB
        clear db fb do_ fo
        by_cases hlt:(f2:Int)<=s.space
        . obtain⟨nb,aug,atC,rfl,ai8,hnm,hnk⟩:=Qn hn2 (by rw[hnl.out];omega)
          have hdl:d<aN.length:=by rw[hnl.out];have:=hd2.out;omega
          have hds:d<s.days.length:=by have:=hd2.out;omega
          have afV:=ai (aoy _ mv s aN wr w.heap.size w.heap.size (w.heap.size+1) bd j d f2 f2 _ hl2 ok hno hd2.out hlt hT.out y0 x0)
          have z0:=hnk d hdl
          have hdi:(0:Int)<=(d:Int)/\(d:Int)<(aN.length:Int):=by omega
          clear hnk
          go_wp2
          obtain⟨op,oa,oB,oc,od,hout⟩:=JI (some ⟨lb,0,none⟩) d f2 (Sea.at0 aN d) (cZ (dW s d f2 (Sea.at0 aN d) (s.vals aN j)) (dC s d f2 (Sea.at0 aN d))).2
          replace hout:=ai hout
          obtain⟨best,G7⟩:=aG ((cZ (dW s d f2 (Sea.at0 aN d) (s.vals aN j)) (dC s d f2 (Sea.at0 aN d))).1)
          obtain⟨V3,yC⟩:∃V3:Value->World->Prop,V3=fun v w'=>Ap w' v (.pointer (some ⟨lb,0,none⟩)) d f2 (Sea.at0 aN d):=⟨_,rfl⟩
          have afW:∀v w1 w2,V3 v w1->Below w1.heap.size w1 w2->V3 v w2:=by rw[yC];exact fun v w1 w2 h hb=>h.mono (.of hb)
          have cA:∀w',Below wr.heap.size wr w'->Calls Tryz.prog 62 #[.pointer (some ⟨lb,0,none⟩),.agg #[.int .i64 d,.int .i64 f2],.int .i64 (Sea.at0 aN d)] w' fun e w''=>∃v,e=.returned v/\V3 v w''/\Below w'.heap.size w' w'':=by
           rw[yC];exact fun w' _=>QF _ _ _ _ _
          have cB:∀v w',Below wr.heap.size wr w'->V3 v w'->Calls Tryz.prog 61 #[v,.func (.func 115) #[] #[.pointer (some ⟨w.heap.size+1,0,none⟩),.pointer (some ⟨bd,0,none⟩)]] w' (dI (.tuple #[.agg #[.pointer op,.int .i64 oa,.int .i64 oB,.int .i64 oc,.int .i64 od],.int .i64 best,.bool (decide (best<1000000000000000))]) w'):=by
           rw[yC]
           intro v w' hw' hv
           have:=Bf _ mv _ s d f2 (Sea.at0 aN d) (dW s d f2 (Sea.at0 aN d) (s.vals aN j)) 115 _ w' (hl2.mono hw') hds ok (by omega) (hnb d hds) hv afg (fun u hu X hX=>afV.out u hu X (aj hw' hX))
           rw[hout.out,G7] at this
           exact this
          replace G7:=ai G7
          replace yC:=ai yC
          clear hl2 afV hn2 hn
          refine Ad (va:=[⟨15,10,172,#[.pointer none,.int .i64 0,.int .i64 0,.int .i64 0,.int .i64 0],16,.tmp 97⟩]) (ab:=⟨8,94,10,.tuple #[.agg #[.pointer op,.int .i64 oa,.int .i64 oB,.int .i64 oc,.int .i64 od],.int .i64 best,.bool (decide (best<1000000000000000))]⟩) (Φ:=V3) h_ afW (by kernel_rfl) (by kernel_rfl) ?_ ?_ (by simp) (by simp) (fun TT ff hTT Zi hcl=>?_)
          . intro p hp w
            simp only[List.mem_cons,List.not_mem_nil,or_false] at hp
            rcases hp with rfl <;> go_simp
          . intro p hp
            simp only[List.mem_cons,List.not_mem_nil,or_false] at hp
            rcases hp with rfl <;> kernel_rfl
          have hg:∀(g:TT) (b o:Nat),b<wr.heap.size->(ff g).cell? ⟨b,o,none⟩=wr.cell? ⟨b,o,none⟩:=fun g=>dR (Zi g)
          simp only[dP,uI,Nat.reduceEqDiff,List.zipIdx_cons,List.zipIdx_nil,List.map_cons,List.map_nil,fG,List.any_cons,List.any_nil,Nat.reduceAdd,Nat.reduceBEq,Bool.or_false,Bool.false_or,Bool.or_self,Bool.false_eq_true,if_false,if_true,Nat.zero_add,BEq.rfl,Bool.or_true,Bool.true_or]
          simp only[Go.Sd.blank]
          repeat (go_big_quiet_step (fail))
          refine wpQuiet_nil ?_
          refine⟨?_,?_,?_,?_⟩
          . intro p hp
            simp only[List.mem_cons,List.not_mem_nil,or_false] at hp
            rcases hp with rfl <;> (constructor <;> simp[go_sem,Value.cells,Value.oneCell'])
          . intro o ho w' hw'
            cases ho
            exact⟨_,_,by kernel_rfl,cA w' hw'⟩
          . intro o ho v w' hw' hv
            cases ho
            exact⟨_,_,by kernel_rfl,cB v w' hw' hv⟩
          intro ns vA w' hB' hv
          obtain⟨n1,rfl,hn1,hl1,hc1,hf1⟩:=qA hv
          clear hv Zi hcl hg hTT ff TT cA cB afW
          simp only[iQ,Act.put,List.setIfInBounds_toArray,List.set_cons_zero,List.set_cons_succ]
          simp[go_sem] at hc1
          clear yC V3
          have hTX:=hT.out.mono hB'
          have F_:=hB.trans (hB'.mono hB.size)
          have hbx2:=PV hB' hbx
          have adi:=PV hB' Yz
          go_wp2
          clear hbx Yz hnb hB' hB hT
          obtain⟨vs,hM,hnb⟩:=hTX
          obtain⟨zb2,db,fb⟩:=ah hbx2
          have u0:=db 0
          obtain⟨zo2,do_,fo⟩:=ah adi
          have u1:=do_ 0
          simp only[List.getElem?_toArray,List.getElem?_cons_zero] at u0 u1
          have hlen:=Sea.mr s.days.length (s.vals aN) (j+1) f2
          have Ql:(Sea.fO (Sea.yh s.days.length (s.vals aN) (j+1) f2) d).length<=1000:=by
           rw[Sea.yj _ _ _ _ _ (by omega),if_neg (by have:=hd2.out;omega),if_pos (by have:=hd2.out;omega),List.length_take];omega
          have hlt2:∀k,k ∈ [bd,w.heap.size+1]->k<w'.heap.size:=by intro k hk;rcases List.mem_cons.1 hk with rfl|hk;exact zb2;rw[List.mem_singleton.1 hk];exact zo2
          have hbb:w.heap.size ∉ [bd,w.heap.size+1]:=by simp;omega
          replace hlt2:=ai hlt2
          replace hbb:=ai hbb
          have hdd:(0:Int)<=(d:Int)/\(d:Int)<(s.days.length:Int)+1:=by omega
          replace Ql:=ai Ql
          clear db fb do_ fo x0 y0 z0 zb zo
          obtain⟨x1,x2⟩:=VD hM (i:=d) (by rw[hlen];omega)
          have hown:=hM.own (d) (by rw[hlen];omega)
          have hne:=hM.ne (d) (by rw[hlen];omega)
          have amF:=hnb (d) (by rw[hlen];omega)
          obtain⟨i0,hi0,hz0,hz1,hz2⟩:=info_parts CZ
          have hL:(Sea.fO (Sea.yh s.days.length (s.vals aN) (j+1) f2) (d)).length<=1000:=Ql.out
          obtain⟨v0,hv0⟩:=aG (iJ vs (d))
          rw[hv0] at x1 hown hne amF
          have al0:v0.ownBlock≠some (w.heap.size+1):=amF _ (by simp)
          have al1:v0.ownBlock≠some (bd):=amF _ (by simp)
          have kx:∀(o:Obj) (b off:Nat) (v:Value),w'.cell? ⟨b,off,none⟩=some v->(w'.alloc o).drew.cell? ⟨b,off,none⟩=some v:=fun o b off v h=>ae (((Below.refl _ _).alloc (Nat.le_refl _) o).drew) h
          have fx:∀(o:Obj),(w'.alloc o).drew.frozen? ⟨w.heap.size,d,none⟩=false:=fun o=>((((Below.refl w'.heap.size w').alloc (Nat.le_refl _) o).drew).frozen (p:=⟨w.heap.size,d,none⟩) (World.block_lt_of_cell? _ ⟨_,_,none⟩ x1)).trans x2
          have hl1:(Sea.fO (Sea.yh s.days.length (s.vals aN) (j+1) f2) (d)).length+1<=maxLen:=by unfold maxLen;omega
          have hl2:((Sea.fO (Sea.yh s.days.length (s.vals aN) (j+1) f2) (d)).length+1)*8<=140737488355328:=by omega
          have hbl:w.heap.size<w'.heap.size:=World.block_lt_of_cell? _ ⟨_,_,none⟩ x1
          have zl0:w.heap.size+1<w'.heap.size:=World.block_lt_of_cell? _ ⟨_,_,none⟩ u1
          have zl1:bd<w'.heap.size:=World.block_lt_of_cell? _ ⟨_,_,none⟩ u0
          refine wp_region_noPanic ?_
          refine wp_region_held_drew (S:=(fun w'=>w'.cell? ⟨w.heap.size+1,0,none⟩=some (.slice (some ⟨w.heap.size,0,none⟩) (s.days.length+1) (s.days.length+1))/\w'.cell? ⟨bd,0,none⟩=some (.int .i64 d))) (by kernel_rfl) ?_ (fun hHeld=>?_)
          . first|(first|(go_keep;done)|exact⟨kx _ _ _ _ u1,kx _ _ _ _ u0⟩|exact⟨hc0,hc1⟩|exact⟨(World.cell?_setCell_far _ _ _ _ (by show(w.heap.size:Nat)≠w.heap.size+1;omega)).trans hc0,(World.cell?_setCell_far _ _ _ _ (by show(w.heap.size:Nat)≠bd;omega)).trans hc1⟩)|(dsimp only;(first|(go_keep;done)|exact⟨kx _ _ _ _ u1,kx _ _ _ _ u0⟩|exact⟨hc0,hc1⟩|exact⟨(World.cell?_setCell_far _ _ _ _ (by show(w.heap.size:Nat)≠w.heap.size+1;omega)).trans hc0,(World.cell?_setCell_far _ _ _ _ (by show(w.heap.size:Nat)≠bd;omega)).trans hc1⟩))
          refine tkz 0 ?_ (by assumption) ?_ ?_
          rotate_left
          . intro w hSw;(try dsimp only at hSw);go_simp;(try with_reducible rfl)
          try simp only[aI]
          refine tkz 1 ?_ (by assumption) ?_ ?_
          rotate_left
          . intro w hSw;(try dsimp only at hSw);go_simp;(try with_reducible rfl)
          try simp only[aI]
          refine tkz 2 ?_ (by assumption) ?_ ?_
          rotate_left
          . intro w hSw;(try dsimp only at hSw);go_simp;(try with_reducible rfl)
          try simp only[aI]
          refine tkz 3 ?_ (by assumption) ?_ ?_
          rotate_left
          . intro w hSw;(try dsimp only at hSw);go_simp;(try with_reducible rfl)
          try simp only[aI]
          refine tkz 4 ?_ (by assumption) ?_ ?_
          rotate_left
          . intro w hSw;(try dsimp only at hSw);go_simp;(try with_reducible rfl)
          try simp only[aI]
          refine tkz 6 ?_ (by assumption) ?_ ?_
          rotate_left
          . intro w hSw;(try dsimp only at hSw);go_simp;(try with_reducible rfl)
          try simp only[aI]
          refine wpAnyH_ready (rs:=[5,7]) (by kernel_rfl) (by simp) ?_
          refine AllReadyH.cons rfl (fun K hK=>?aef) (AllReadyH.cons rfl (fun K hK=>?aeh) AllReadyH.nil)
          case' aef =>
           go_simp
           refine hK.out _ _ ?_ (fun bG=>?_)
           . first|(first|(go_keep;done)|exact⟨kx _ _ _ _ u1,kx _ _ _ _ u0⟩|exact⟨hc0,hc1⟩|exact⟨(World.cell?_setCell_far _ _ _ _ (by show(w.heap.size:Nat)≠w.heap.size+1;omega)).trans hc0,(World.cell?_setCell_far _ _ _ _ (by show(w.heap.size:Nat)≠bd;omega)).trans hc1⟩)|(dsimp only;(first|(go_keep;done)|exact⟨kx _ _ _ _ u1,kx _ _ _ _ u0⟩|exact⟨hc0,hc1⟩|exact⟨(World.cell?_setCell_far _ _ _ _ (by show(w.heap.size:Nat)≠w.heap.size+1;omega)).trans hc0,(World.cell?_setCell_far _ _ _ _ (by show(w.heap.size:Nat)≠bd;omega)).trans hc1⟩))
           clear hK K hHeld
           have hHeld:=bG
           clear bG
           try simp only[aI]
           refine wpAnyH_ready (rs:=[7]) (by kernel_rfl) (by simp) ?_
           refine AllReadyH.cons rfl (fun K hK=>?_) AllReadyH.nil
           go_simp
           refine hK.out _ _ ?_ (fun bG=>?_)
           . first|(first|(go_keep;done)|exact⟨kx _ _ _ _ u1,kx _ _ _ _ u0⟩|exact⟨hc0,hc1⟩|exact⟨(World.cell?_setCell_far _ _ _ _ (by show(w.heap.size:Nat)≠w.heap.size+1;omega)).trans hc0,(World.cell?_setCell_far _ _ _ _ (by show(w.heap.size:Nat)≠bd;omega)).trans hc1⟩)|(dsimp only;(first|(go_keep;done)|exact⟨kx _ _ _ _ u1,kx _ _ _ _ u0⟩|exact⟨hc0,hc1⟩|exact⟨(World.cell?_setCell_far _ _ _ _ (by show(w.heap.size:Nat)≠w.heap.size+1;omega)).trans hc0,(World.cell?_setCell_far _ _ _ _ (by show(w.heap.size:Nat)≠bd;omega)).trans hc1⟩))
           clear hK K hHeld
           have hHeld:=bG
           clear bG
           try simp only[aI]
           refine wpAnyH_ready (rs:=[8]) (by kernel_rfl) (by simp) ?_
           refine AllReadyH.cons rfl (fun K hK=>?_) AllReadyH.nil
           ((refine step_append_lies _ (by rfl) _ _ _ (by rfl) w.heap.size 3 i0 _ 1 8 Tryz.underlying50 hi0 hz0 hz1 hz2 rfl (by decide) v0 _ _ (by rfl) ((World.ownsRow.alloc hown _).drew) ⟨w'.heap.size,0,none⟩ 1 1 [.int .i64 (best)] (by rfl) (by rfl) (World.news_of_block (cs:=#[.int .i64 (best)]) (t:=3) (fr:=(0,0)) (heap_alloc_new w' _)) (by simp[Value.oneCell']) (by decide) hl1 hl2 (by simp;omega) (w'.heap.size+1) (by simp) ?_;intro gg Qi w1 hown1 hgrow hat MN;have hc0:=(hgrow.cell_far _ (by simp;omega) (Ne.symm al0)).trans (kx _ _ _ _ u1);have hc1:=(hgrow.cell_far _ (by simp;omega) (Ne.symm al1)).trans (kx _ _ _ _ u0);have hcz:w1.cell? ⟨w.heap.size,d,none⟩=some v0:=(hgrow.cell_far _ (by simp;omega) (Ne.symm hne)).trans (kx _ _ _ _ x1);have hfz:w1.frozen? ⟨w.heap.size,d,none⟩=false:=(hgrow.frozen_far _ (by simp;omega) (Ne.symm hne)).trans (fx _)))
           refine hK.out _ _ ?_ (fun bG=>?_)
           . first|(first|(go_keep;done)|exact⟨kx _ _ _ _ u1,kx _ _ _ _ u0⟩|exact⟨hc0,hc1⟩|exact⟨(World.cell?_setCell_far _ _ _ _ (by show(w.heap.size:Nat)≠w.heap.size+1;omega)).trans hc0,(World.cell?_setCell_far _ _ _ _ (by show(w.heap.size:Nat)≠bd;omega)).trans hc1⟩)|(dsimp only;(first|(go_keep;done)|exact⟨kx _ _ _ _ u1,kx _ _ _ _ u0⟩|exact⟨hc0,hc1⟩|exact⟨(World.cell?_setCell_far _ _ _ _ (by show(w.heap.size:Nat)≠w.heap.size+1;omega)).trans hc0,(World.cell?_setCell_far _ _ _ _ (by show(w.heap.size:Nat)≠bd;omega)).trans hc1⟩))
           clear hK K hHeld
           have hHeld:=bG
           clear bG
           try simp only[aI]
           refine tkz 9 ?_ (by assumption) ?_ ?_
           rotate_left
           . intro w hSw;(try dsimp only at hSw);go_simp;(try with_reducible rfl)
           try simp only[aI]
           refine wpAnyH_ready (rs:=[10]) (by kernel_rfl) (by simp) ?_
           refine AllReadyH.cons rfl (fun K hK=>?_) AllReadyH.nil
           go_simp
           refine hK.out _ _ ?_ (fun bG=>?_)
           . first|(first|(go_keep;done)|exact⟨kx _ _ _ _ u1,kx _ _ _ _ u0⟩|exact⟨hc0,hc1⟩|exact⟨(World.cell?_setCell_far _ _ _ _ (by show(w.heap.size:Nat)≠w.heap.size+1;omega)).trans hc0,(World.cell?_setCell_far _ _ _ _ (by show(w.heap.size:Nat)≠bd;omega)).trans hc1⟩)|(dsimp only;(first|(go_keep;done)|exact⟨kx _ _ _ _ u1,kx _ _ _ _ u0⟩|exact⟨hc0,hc1⟩|exact⟨(World.cell?_setCell_far _ _ _ _ (by show(w.heap.size:Nat)≠w.heap.size+1;omega)).trans hc0,(World.cell?_setCell_far _ _ _ _ (by show(w.heap.size:Nat)≠bd;omega)).trans hc1⟩))
           clear hK K hHeld
           have hHeld:=bG
           clear bG
           try simp only[aI]
           refine wpAnyH_done (by kernel_rfl) ?_ _
           refine NoPanic.normal ?_
          case' aeh =>
           go_simp
           refine hK.out _ _ ?_ (fun bG=>?_)
           . first|(first|(go_keep;done)|exact⟨kx _ _ _ _ u1,kx _ _ _ _ u0⟩|exact⟨hc0,hc1⟩|exact⟨(World.cell?_setCell_far _ _ _ _ (by show(w.heap.size:Nat)≠w.heap.size+1;omega)).trans hc0,(World.cell?_setCell_far _ _ _ _ (by show(w.heap.size:Nat)≠bd;omega)).trans hc1⟩)|(dsimp only;(first|(go_keep;done)|exact⟨kx _ _ _ _ u1,kx _ _ _ _ u0⟩|exact⟨hc0,hc1⟩|exact⟨(World.cell?_setCell_far _ _ _ _ (by show(w.heap.size:Nat)≠w.heap.size+1;omega)).trans hc0,(World.cell?_setCell_far _ _ _ _ (by show(w.heap.size:Nat)≠bd;omega)).trans hc1⟩))
           clear hK K hHeld
           have hHeld:=bG
           clear bG
           try simp only[aI]
           refine wpAnyH_ready (rs:=[5]) (by kernel_rfl) (by simp) ?_
           refine AllReadyH.cons rfl (fun K hK=>?_) AllReadyH.nil
           go_simp
           refine hK.out _ _ ?_ (fun bG=>?_)
           . first|(first|(go_keep;done)|exact⟨kx _ _ _ _ u1,kx _ _ _ _ u0⟩|exact⟨hc0,hc1⟩|exact⟨(World.cell?_setCell_far _ _ _ _ (by show(w.heap.size:Nat)≠w.heap.size+1;omega)).trans hc0,(World.cell?_setCell_far _ _ _ _ (by show(w.heap.size:Nat)≠bd;omega)).trans hc1⟩)|(dsimp only;(first|(go_keep;done)|exact⟨kx _ _ _ _ u1,kx _ _ _ _ u0⟩|exact⟨hc0,hc1⟩|exact⟨(World.cell?_setCell_far _ _ _ _ (by show(w.heap.size:Nat)≠w.heap.size+1;omega)).trans hc0,(World.cell?_setCell_far _ _ _ _ (by show(w.heap.size:Nat)≠bd;omega)).trans hc1⟩))
           clear hK K hHeld
           have hHeld:=bG
           clear bG
           try simp only[aI]
           refine wpAnyH_ready (rs:=[8]) (by kernel_rfl) (by simp) ?_
           refine AllReadyH.cons rfl (fun K hK=>?_) AllReadyH.nil
           ((refine step_append_lies _ (by rfl) _ _ _ (by rfl) w.heap.size 3 i0 _ 1 8 Tryz.underlying50 hi0 hz0 hz1 hz2 rfl (by decide) v0 _ _ (by rfl) ((World.ownsRow.alloc hown _).drew) ⟨w'.heap.size,0,none⟩ 1 1 [.int .i64 (best)] (by rfl) (by rfl) (World.news_of_block (cs:=#[.int .i64 (best)]) (t:=3) (fr:=(0,0)) (heap_alloc_new w' _)) (by simp[Value.oneCell']) (by decide) hl1 hl2 (by simp;omega) (w'.heap.size+1) (by simp) ?_;intro gg Qi w1 hown1 hgrow hat MN;have hc0:=(hgrow.cell_far _ (by simp;omega) (Ne.symm al0)).trans (kx _ _ _ _ u1);have hc1:=(hgrow.cell_far _ (by simp;omega) (Ne.symm al1)).trans (kx _ _ _ _ u0);have hcz:w1.cell? ⟨w.heap.size,d,none⟩=some v0:=(hgrow.cell_far _ (by simp;omega) (Ne.symm hne)).trans (kx _ _ _ _ x1);have hfz:w1.frozen? ⟨w.heap.size,d,none⟩=false:=(hgrow.frozen_far _ (by simp;omega) (Ne.symm hne)).trans (fx _)))
           refine hK.out _ _ ?_ (fun bG=>?_)
           . first|(first|(go_keep;done)|exact⟨kx _ _ _ _ u1,kx _ _ _ _ u0⟩|exact⟨hc0,hc1⟩|exact⟨(World.cell?_setCell_far _ _ _ _ (by show(w.heap.size:Nat)≠w.heap.size+1;omega)).trans hc0,(World.cell?_setCell_far _ _ _ _ (by show(w.heap.size:Nat)≠bd;omega)).trans hc1⟩)|(dsimp only;(first|(go_keep;done)|exact⟨kx _ _ _ _ u1,kx _ _ _ _ u0⟩|exact⟨hc0,hc1⟩|exact⟨(World.cell?_setCell_far _ _ _ _ (by show(w.heap.size:Nat)≠w.heap.size+1;omega)).trans hc0,(World.cell?_setCell_far _ _ _ _ (by show(w.heap.size:Nat)≠bd;omega)).trans hc1⟩))
           clear hK K hHeld
           have hHeld:=bG
           clear bG
           try simp only[aI]
           refine tkz 9 ?_ (by assumption) ?_ ?_
           rotate_left
           . intro w hSw;(try dsimp only at hSw);go_simp;(try with_reducible rfl)
           try simp only[aI]
           refine wpAnyH_ready (rs:=[10]) (by kernel_rfl) (by simp) ?_
           refine AllReadyH.cons rfl (fun K hK=>?_) AllReadyH.nil
           go_simp
           refine hK.out _ _ ?_ (fun bG=>?_)
           . first|(first|(go_keep;done)|exact⟨kx _ _ _ _ u1,kx _ _ _ _ u0⟩|exact⟨hc0,hc1⟩|exact⟨(World.cell?_setCell_far _ _ _ _ (by show(w.heap.size:Nat)≠w.heap.size+1;omega)).trans hc0,(World.cell?_setCell_far _ _ _ _ (by show(w.heap.size:Nat)≠bd;omega)).trans hc1⟩)|(dsimp only;(first|(go_keep;done)|exact⟨kx _ _ _ _ u1,kx _ _ _ _ u0⟩|exact⟨hc0,hc1⟩|exact⟨(World.cell?_setCell_far _ _ _ _ (by show(w.heap.size:Nat)≠w.heap.size+1;omega)).trans hc0,(World.cell?_setCell_far _ _ _ _ (by show(w.heap.size:Nat)≠bd;omega)).trans hc1⟩))
           clear hK K hHeld
           have hHeld:=bG
           clear bG
           try simp only[aI]
           refine wpAnyH_done (by kernel_rfl) ?_ _
           refine NoPanic.normal ?_
          all_goals
           have hgX:w'.grownBy w1 (iJ vs (d)).ownBlock:=by rw[hv0];exact grownBy_trans (World.grownBy_alloc w' _ _) ⟨hgrow.os,hgrow.tape,hgrow.output,hgrow.size,hgrow.block⟩
           have hq:=ahJ (y:=best) hM hnb (by rw[hlen];omega) hlt2.out hbb.out rfl hown1 hgX (by rw[hv0];rcases hat with e|e;exact .inl e;exact .inr (by omega))
           have ht:=Sea.Rh s.days.length (s.vals aN) (j+1) f2 best (by omega) (by have:=G7.out;subst this;exact Uf ok aN hd2.out hlt)
           rw[show s.days.length - (j+1)=d by have:=hd2.out;omega] at ht
           rw[ht] at hq
           obtain⟨hq1,hq2⟩:=hq
           have hbn:=(hq2.block bd zb2 (.inr (by simp))).trans hbx2
           have hon:=(hq2.block (w.heap.size+1) zo2 (.inr (by simp))).trans adi
           have hBn:=F_.trans (hq2.below F_.size fun k hk=>.inl hk)
           clear hM hq2 hown1 hgrow hgX x1 x2 fx kx hc0 hc1 hcz hfz u0 u1 hbx2 adi G7
           replace hq1:=ai hq1
           go_wp2
           exact⟨⟨f2+1,by omega,by go_num,hbn,hq1.out,hon,hBn⟩,by simp[intOf];omega⟩
        . have hTn:TabAt w.heap.size w.heap.size [bd,w.heap.size+1] wr (Sea.yh s.days.length (s.vals aN) (j+1+1) 0):=by
           have:=hT.out
           rwa [Sea.Ym _ _ (j+1) f2 (by have:=hd2.out;omega) (by rw[Sea.S.vals_length];omega)] at this
          have ams:=(hTn.less (bad':=[w.heap.size+1]) (by simp)).add (Nat.le_refl _)
          replace ams:=ai ams
          clear hT hTn
          have hdw:(0:Int)<=(d:Int)/\(d:Int)<=100:=by have:=hd2.out;omega
          go_wp2
          have hal:(wr.alloc (.cells #[.int .i64 ((d:Int) - 1)] 3)).heap[wr.heap.size]? = some (.cells #[.int .i64 ((d:Int) - 1)] 3):=World.alloc_heap_new _ _
          have hBa:Below wr.heap.size wr (wr.alloc (.cells #[.int .i64 ((d:Int) - 1)] 3)):=(Below.refl _ _).alloc (Nat.le_refl _) _
          refine⟨⟨j+1,wr.heap.size,by have:=hd2.out;omega,rfl,by omega,?_,ams.out.mono hBa,PV hBa Yz,hB.trans (hBa.mono hB.size)⟩,?_⟩
          . rw[hal,show(d:Int) - 1=(s.days.length:Int) - 1 - ((j+1:Nat):Int) by have:=hd2.out;omega]
          . rw[hMO.out,Sr ((ah hal).2.1 0)];omega
     . have amD:j=s.days.length:=by omega
       have hT2:=hT.out
       rw[amD,Sea.T_] at hT2
       obtain⟨vs,hM,-⟩:=hT2
       have hcell:wr.cell? ⟨bd,0,none⟩=some (.int .i64 (-1)):=by rw[x0,amD];congr 2;omega
       clear x0 hbx db fb amD
       go_wp2
       go_ret
       exact⟨w.heap.size,vs,_,rfl,hM,hB⟩
