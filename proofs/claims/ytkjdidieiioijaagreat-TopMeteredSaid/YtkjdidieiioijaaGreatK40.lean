/- Walks. -/
import Derived.Test.YtkjdidieiioijaaGreatK31
import Derived.Test.YtkjdidieiioijaaGreatK39
set_option linter.all false
set_option maxRecDepth 100000
set_option maxHeartbeats 16000000
namespace Go.Proofs.YtkjdidieiioijaaGreat.B
open Go.RowKit Go.Sd Wl Bk L Tr Dk
theorem amU:(Tryz.prog.info? 131).map (fun i=>(i.zero,i.size,i.bytes))=some (some (.agg #[.int .i64 0,.int .i64 0,.int .i64 0,.int .i64 0,.int .i64 0,.int .i64 0,.int .i64 0,.int .i64 0,.int .i64 0,.int .i64 0,.slice none 0 0,.pointer none,.int .i64 0]),13,120):=by kernel_rfl
theorem amV:(Tryz.prog.info? 35).map (fun i=>(i.zero,i.size,i.bytes))=some (some (.agg #[.int .i64 0,.int .i64 0]),2,16):=by kernel_rfl
theorem jJ.gq {B C m n tb:Nat}{e:TypeId}{mm:iY}{w w':World}{v:Value}{ks:List Value}(h:jJ B tb mm w)(ho:w.ownsRow C e m v n ks)(h1:e≠210)(h2:e≠3)(hk:Kept (fun j=>v.ownBlock≠some j) w w'):jJ B tb mm w':=by
 obtain⟨sa,sn,sc,ta,tn,tc,ma,mn,mc,oa,oc,hr,hq⟩:=h.row
 refine⟨h.le,sa,sn,sc,ta,tn,tc,ma,mn,mc,oa,oc,(hk.block tb (aF hr) fun e0=>?_).trans hr,bT hq hk fun j hj e0=>dM h2 ho hq j hj e0⟩
 rcases ho.2 with ⟨rfl,-⟩|⟨g,cap,cur,rfl,hb,hg,-⟩
 . cases e0
 . have e1:g=tb:=by simpa [Value.ownBlock] using e0
   subst e1
   rw[hr] at hg
   simp only[Option.some.injEq,Obj.cells.injEq] at hg
   first|exact h1 hg.2.1|exact h1 hg.2.1.symm
theorem jJ.weak {B C tb:Nat}{mm:iY}{w:World}(hB:B<=C)(h:jJ C tb mm w):jJ B tb mm w:=by
 obtain⟨sa,sn,sc,ta,tn,tc,ma,mn,mc,oa,oc,hr,hq⟩:=h.row
 exact⟨Nat.le_trans hB h.le,sa,sn,sc,ta,tn,tc,ma,mn,mc,oa,oc,hr,iw hB hq⟩
structure aoD (C:Nat)(x:Rm)(d:DC)(w:World):Prop where
 s:x.s=d.s
 we:x.we=d.we
 pv:x.pv=d.pv
 came:x.came=0
 stop:jJ C x.tb d.m w
structure OpA (C d:Nat)(W5:World)(r:ND)(ds:List DC)(rs:List Rm)(sps:List Value)(m:Nat)(w:World):Prop where
 row:w.heap[d]? = some (aib r)
 dlt:d<C
 siz:C<=w.heap.size
 orm:w.ownsRow C 131 13 r.rv rs.length (rs.flatMap Yg)
 osp:w.ownsRow C 35 2 r.first m sps
 got:∀j,j<rs.length->aoD C (ny rs j) (aQ ds j) w
 kept:Kept (fun j=>j<C/\j≠d) W5 w
section
variable {C d m:Nat}{W5 w w':World}{r:ND}{ds:List DC}{rs:List Rm}{sps:List Value}
theorem OpA.below (h:OpA C d W5 r ds rs sps m w)(hb:Below w.heap.size w w'):OpA C d W5 r ds rs sps m w' :=
 ⟨ak hb h.row,h.dlt,Nat.le_trans h.siz hb.size,gU h.orm hb,gU h.osp hb,fun j hj=>⟨(h.got j hj).s,(h.got j hj).we,(h.got j hj).pv,(h.got j hj).came,(h.got j hj).stop.keep (.all hb)⟩,h.kept.trans (.all hb)⟩
theorem aoh (rs:List Rm)(x:Rm){j:Nat}(hj:j<rs.length):ny (rs ++ [x]) j=ny rs j:=by unfold ny;simp[List.getElem?_append_left hj]
theorem aoi (rs:List Rm)(x:Rm):ny (rs ++ [x]) rs.length=x:=by unfold ny;simp
theorem rU (w:World)(d i:Nat)(v:Value):Kept (fun j=>j≠d) w (w.setCell ⟨d,i,none⟩ v):=(Kept.refl _ _).setCell (p:=⟨d,i,none⟩) (.inl fun h=>h rfl) _
theorem OpA.room (h:OpA C d W5 r ds rs sps m w) {v':Value} {x:Rm} (ho:w'.ownsRow C 131 13 v' (rs.length+1) (rs.flatMap Yg ++ Yg x)) (hk:Kept (fun j=>r.rv.ownBlock≠some j) w w') (hx:aoD C x (aQ ds rs.length) w):OpA C d W5 { r with rv:=v' } ds (rs ++ [x]) sps m (w'.setCell ⟨d,10,none⟩ v'):=by
 have hs:=rU w' d 10 v'
 have hne:∀j,C<=j->j≠d:=fun j hj=>by have:=h.dlt;omega
 have hrd:r.rv.ownBlock≠some d:=fun e=>by have:=(eF h.orm d e).1;have:=h.dlt;omega
 have hrow:w'.heap[d]? = some (aib r):=(hk.block d (aF h.row) hrd).trans h.row
 have hst:∀{tb:Nat} {mm:iY},jJ C tb mm w->jJ C tb mm (w'.setCell ⟨d,10,none⟩ v'):=fun ht=>(ht.gq h.orm (by decide) (by decide) hk).keep (hs.mono fun j _ hj=>hne j hj)
 refine⟨by rw[aX hrow];rfl,h.dlt,Nat.le_trans h.siz (Nat.le_trans hk.size hs.size),?_,bT (bT h.osp hk (dM (by decide) h.orm h.osp)) hs fun j hj=>hne j (eF h.osp j hj).1,fun j hj=>?_,(h.kept.trans (hk.mono fun j _ hj e=>by have:=(eF h.orm j e).1;omega)).trans (hs.mono fun j _ hj=>hj.2)⟩
 . rw[List.length_append,List.flatMap_append,List.flatMap_cons,List.flatMap_nil,List.append_nil]
   exact bT ho hs fun j hj=>hne j (eF ho j hj).1
 . rw[List.length_append] at hj
   by_cases hj':j<rs.length
   . rw[aoh _ _ hj']
     have g:=h.got j hj'
     exact⟨g.s,g.we,g.pv,g.came,hst g.stop⟩
   . obtain rfl:j=rs.length:=by simp at hj;omega
     rw[aoi]
     exact⟨hx.s,hx.we,hx.pv,hx.came,hst hx.stop⟩
theorem OpA.span (h:OpA C d W5 r ds rs sps m w) {v':Value} {ks:List Value} (ho:w'.ownsRow C 35 2 v' (m+1) ks) (hk:Kept (fun j=>r.first.ownBlock≠some j) w w'):OpA C d W5 { r with first:=v' } ds rs ks (m+1) (w'.setCell ⟨d,23,none⟩ v'):=by
 have hs:=rU w' d 23 v'
 have hne:∀j,C<=j->j≠d:=fun j hj=>by have:=h.dlt;omega
 have hrd:r.first.ownBlock≠some d:=fun e=>by have:=(eF h.osp d e).1;have:=h.dlt;omega
 have hrow:w'.heap[d]? = some (aib r):=(hk.block d (aF h.row) hrd).trans h.row
 have hst:∀{tb:Nat} {mm:iY},jJ C tb mm w->jJ C tb mm (w'.setCell ⟨d,23,none⟩ v'):=fun ht=>(ht.gq h.osp (by decide) (by decide) hk).keep (hs.mono fun j _ hj=>hne j hj)
 refine⟨by rw[aX hrow];rfl,h.dlt,Nat.le_trans h.siz (Nat.le_trans hk.size hs.size),bT (bT h.orm hk (dM (by decide) h.osp h.orm)) hs fun j hj=>hne j (eF h.orm j hj).1,bT ho hs fun j hj=>hne j (eF ho j hj).1,fun j hj=>?_,(h.kept.trans (hk.mono fun j _ hj e=>by have:=(eF h.osp j e).1;omega)).trans (hs.mono fun j _ hj=>hj.2)⟩
 have g:=h.got j hj
 exact⟨g.s,g.we,g.pv,g.came,hst g.stop⟩
structure Rw (wk:Wk)(r:ND)(ds:List DC)(rs:List Rm):Prop where
 k:r.k=wk
 acts:r.acts=.slice none 0 0
 Xi:r.Xi=0
 len:ds.length=wk.aW.length
 same:∀j,j<wk.aW.length->PO (aQ wk.aW j) (aQ ds j)
 rms:∀j,j<wk.aW.length->(ny rs j).s=(aQ wk.aW j).s/\(ny rs j).we=(aQ wk.aW j).we/\(ny rs j).came=0
theorem OpA.fin {B:Nat}{wk:Wk}(h:OpA C d W5 r ds rs sps m w)(hB:B<=C)(hd:B<=d)(hl:rs.length=ds.length)(hlen:ds.length=wk.aW.length)(h3:wk.aW.length<=3)(hk:r.k=wk)(ha:r.acts=.slice none 0 0)(hf:r.Xi=0)(hS:jP B (fun x=>GG x r.vv ds) w)(hsm:∀k,k<wk.aW.length->PO (aQ wk.aW k) (aQ ds k)):ed B d r ds rs w/\Rw wk r ds rs:=by
 refine⟨⟨hd,h.row,by rw[hk];exact hlen,by omega,hS,iw hB h.orm,hl,fun j hj=>?_,fun j hj=>(h.got j hj).stop.weak hB,⟨none,0,0,ha,by decide⟩⟩,⟨hk,ha,hf,hlen,hsm,fun j hj=>?_⟩⟩
 . have g:=h.got j hj
   refine hS.imp fun x hx=>?_
   rw[g.pv,g.we]
   exact(hx.ins j (by omega)).parts
 . have g:=h.got j (by omega)
   have s:=hsm j hj
   exact⟨g.s.trans s.s,g.we.trans s.we,g.came⟩
