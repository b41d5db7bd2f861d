/- Walks. -/
import Derived.Test.YtkjdidieiioijaaGreatK17
set_option linter.all false
set_option maxRecDepth 100000
set_option maxHeartbeats 16000000
namespace Go.Proofs.YtkjdidieiioijaaGreat.B
open Go.RowKit Go.Sd Wl L
attribute [local go_sem] Oper.semAt_some
def ig (b:Nat)(w:World)(ns:List Int):Prop:=w.heap[b]? = some (.cells (ns.map (Value.int .i64)).toArray 3 (0,0))
theorem ig.mono {b:Nat}{w w':World}{ns:List Int}(h:ig b w ns)(hb:Below w.heap.size w w'):ig b w' ns:=(hb.block b (aF h)).trans h
theorem ig.cell {b:Nat}{w:World}{ns:List Int}(h:ig b w ns){k:Nat}(hk:k<ns.length):w.cell? ⟨b,k,none⟩=some (.int .i64 (at0 ns k))/\w.frozen? ⟨b,k,none⟩=false:=by
 rw[cell_of_row w b k _ _ (0,0) h]
 refine⟨?_,frozen_of_row w b k _ _ h⟩
 simp[at0,hk]
theorem ig.lt {b:Nat}{w:World}{ns:List Int}(h:ig b w ns):b<w.heap.size:=(aF h)
theorem ig.keep {S:Nat->Prop}{b:Nat}{w w':World}{ns:List Int}(h:ig b w ns)(hk:Kept S w w')(hs:S b):ig b w' ns:=(hk.block b h.lt hs).trans h
theorem ig.set {b:Nat}{w:World}{ns:List Int}(h:ig b w ns)(k:Nat)(y:Int):ig b (w.setCell ⟨b,k,none⟩ (.int .i64 y)) (ns.set k y):=by
 unfold ig at *
 rw[aX h]
 simp[List.map_set]
theorem ab7 (z:Value)(n:Nat):madeCells #[z] n=Array.replicate n z:=by
 apply Array.ext
 . simp[madeCells]
 . intro i h1 h2
   simp[madeCells,Nat.mod_one]
theorem adv (w:World)(n:Nat)(hn:n<=1000):(Instr.makeSlice 50 (.int .i64 (n:Int)) (.int .i64 (n:Int))).run Tryz.prog w =
    .ok (.slice (some ⟨w.heap.size,0,none⟩) n n) (w.alloc (.cells (Array.replicate n (.int .i64 0)) 3)):=by
 obtain⟨i0,hi,hz0,hz1,hz2⟩:=info_parts agc
 have h:=run_makeSlice (P:=Tryz.prog) w 50 3 i0 (.int .i64 0) Tryz.underlying50 hi hz0 .i64 .i64 (n:Int) (n:Int) (by omega) (by omega) (by rw[hz1];omega) (by rw[hz2];omega) (by omega)
 rw[hz1,Int.toNat_natCast,Nat.mul_one,show Value.cells (.int .i64 0)=#[.int .i64 0] from rfl,ab7] at h
 exact h
theorem ig.made (w:World)(n:Nat):ig w.heap.size (w.alloc (.cells (Array.replicate n (.int .i64 0)) 3)) (List.replicate n 0):=by
 unfold ig
 rw[World.alloc_heap_new]
 simp
def oI (f:Nat->Int × Bool)(i:Nat):Bool:=decide ((f i).1=0) && !(f i).2
def yT (n:Nat)(fr:Int):List Int:=(List.replicate n 1048576).set fr.toNat 0
def VX (we:We)(f:Nat->Int × Bool)(fr:Int)(w:World)(e:Ending)(w':World):Prop :=
 ∃(ob n:Nat) (D:List Int),e=.returned (.slice (some ⟨ob,0,none⟩) we.aS.toNat we.aS.toNat)/\qN (oI f) we.parts n (yT we.aS.toNat fr,[fr])=(D,[])/\ig ob w' D/\D.length=we.aS.toNat/\Below w.heap.size w w'
structure SlD where
 (x3 x4 x8 x12 x13 x14 x15 x16 x17 x18 x19 x20 x21 x22 x23 x24 x25 x26 x27 x28 x29 x30 x31 x32 x33 x34 x35 x36 x37 x38 x39 x40 x41 x42 x43 x44 x45 x46 x47 x48 x49 x50 x51 x52 x53 x54 x55 x56 x57 x58 x59 x60 x61 x62 x63 x64 x65 x66 x67 x68 x69 x70 x71 x72 x73 x74 x75 x76 x77 x78 x79 x80 x81 x82 x83 x84:Value)
theorem aaL {m fn j:Nat}(h:fn<m)(hj:j<m):0<=at0 (yT m (fn:Int)) j/\at0 (yT m (fn:Int)) j<=1048576:=by
 unfold yT
 rw[Int.toNat_natCast,Uo (by simpa using h)]
 split
 . omega
 . simp[at0,hj]
theorem YZ {m fn:Nat}(h:fn<m)(hm:m<=8):meas (yT m (fn:Int),[(fn:Int)])<=20000000:=by
 have h1:=akq (l:=yT m (fn:Int)) (B:=1048576) fun x hx=>by
  obtain⟨j,hj,rfl⟩:=List.getElem_of_mem hx
  have hj':j<m:=by simpa [yT] using hj
  have:=aaL h hj'
  simp only[at0,List.getD_eq_getElem?_getD,List.getElem?_eq_getElem hj,Option.getD_some] at this
  omega
 have h2:(yT m (fn:Int)).length=m:=by simp[yT]
 rw[h2] at h1
 have h3:m*1048576<=8*1048576:=Nat.mul_le_mul_right _ hm
 simp only[meas,List.length_cons,List.length_nil]
 omega
structure arK (w:World)(Bq ob sb pb q9 qb m:Nat)(f:Nat->Int × Bool)(Ds:List Nat)(o q:List Int)(v:Value)(wr:World):Prop where
 arr:ig ob wr o
 sl:wr.heap[sb]? = some (.cells #[.slice (some ⟨ob,0,none⟩) m m] 50 (0,0))
 pc:wr.heap[pb]? = some (pcO f)
 qp:wr.heap[q9]? = some (.cells #[.pointer (some ⟨qb,0,none⟩)] 257 (0,0))
 qu:wr.heap[qb]? = some (quO v)
 li:oZ Bq wr v q
 marks:Marks Bq Ds wr
 bel:Below w.heap.size w wr
theorem ZP {tf:Nat->Bool}{i rn tn:Nat}{o q:List Int}{b:Bool}(hb:tf i=b)(h:at0 o tn<=at0 o rn+FC b):Cf tf (rn:Int) (o,q) (i,(tn:Int))=(o,q):=by
 unfold Cf
 rw[hb]
 exact if_pos h
theorem Yd {tf:Nat->Bool}{i rn tn:Nat}{o q:List Int}{b:Bool}(hb:tf i=b)(h:¬ at0 o tn<=at0 o rn+FC b):Cf tf (rn:Int) (o,q) (i,(tn:Int))=(o.set tn (at0 o rn+FC b),TD b q tn):=by
 unfold Cf
 rw[hb]
 exact if_neg h
theorem aid {α:Type}{m:Nat}{enc:α->List Value}{d:α}{w:World}{v:Value}{xs:List α}(h:gG m enc d w v xs)(h0:0<xs.length){j:Nat}(hj:v.ownBlock=some j):j<w.heap.size:=by
 obtain⟨a,cap,rfl,hm,hc⟩:=h
 obtain⟨b,off,rfl,hlt,hx⟩:=hc h0
 cases hj
 exact hlt
def alP (X:World)(Bq ob qb:Nat)(tf:Nat->Bool)(r:Int)(o q:List Int)(v:Value)(pre:List (Nat × Int))(Y:World):Prop :=
 ∃o' q' v',Ci tf r (o,q) pre=(o',q')/\ig ob Y o'/\Y.heap[qb]? = some (quO v')/\oZ Bq Y v' q'/\(v'.ownBlock=v.ownBlock\/v'.ownBlock=none\/∃j,v'.ownBlock=some j/\X.heap.size+2<=j) /\
  Kept (fun j=>j<X.heap.size/\j≠ob/\j≠qb/\v.ownBlock≠some j) X Y
structure DiL (w:World)(we:We)(f:Nat->Int × Bool)(Bq ob sb pb q9 qb m fn:Nat)(Ds:List Nat)(o q:List Int)(r:Int)(rb:Nat)(v:Value)(tk:Bool)(wr:World):Prop where
 st:arK w Bq ob sb pb q9 qb m f Ds o q v wr
 room:wr.heap[rb]? = some (.cells #[.int .i64 r] 3 (0,0))
 rbB:Bq<=rb
 rbv:v.ownBlock≠some rb
 yes:tk=true->∃N,qN (oI f) we.parts N (yT m fn,[(fn:Int)])=(o,r :: q)
 no:tk=false->∃N,qN (oI f) we.parts N (yT m fn,[(fn:Int)])=(o,[])
 fine:Fine m (o,if tk=true then r :: q else [])
 small:meas (o,if tk=true then r :: q else [])<=20000000
theorem RG (we:We)(ok:we.Ok)(day:Int)(lb:Nat)(pv:Value)(f:Nat->Int × Bool)(fr:Int)(hfr:0<=fr/\fr<we.aS)(w:World)(hl:FB w lb pv we day) :
    Calls Tryz.prog 109 #[.pointer (some ⟨lb,0,none⟩),.int .i64 fr,pcV f] w (VX we f fr w):=by
 have hp0:=hl.parts
 obtain⟨pa,Aj,rfl,hpm,-⟩:=hp0
 unfold maxLen at hpm
 have hrm:=ok.aS
 obtain⟨m,hm⟩:=Int.eq_ofNat_of_zero_le (show 0<=we.aS by omega)
 obtain⟨W1,hW1⟩:=aG (w.alloc (pcO f))
 obtain⟨e1,b1,z1⟩:=boxedB hW1
 obtain⟨c0,c1,c2,c3⟩:=row4 (hl.mono b1).row
 have zl:=(Array.getElem?_eq_some_iff.1 (hl.mono b1).row).1
 rw[hm] at c0
 have hmk:=adv W1 m (by omega)
 obtain⟨W2,hW2⟩:=aG (W1.alloc (.cells (Array.replicate m (.int .i64 0)) 3))
 rw[hW2] at hmk
 obtain⟨e2,b2,z2⟩:=boxedB hW2
 have a2:ig W1.heap.size W2 (List.replicate m 0):=by rw[<- hW2];exact ig.made W1 m
 obtain⟨W3,hW3⟩:=aG (W2.alloc (.cells #[.slice (some ⟨W1.heap.size,0,none⟩) m m] 50))
 obtain⟨e3,b3,z3⟩:=boxedB hW3
 have a3:=a2.mono b3
 have x1:=ak b3 (ak b2 e1)
 have hB3:=aj (aj b1 b2) b3
 clear e1 e2 b1 b2 b3 a2
 refine(callsIn_wide (n:=0)).1 ?_
 refine callsIn_of_wp_marks Tryz.func109 rfl trivial ?_
 simp only[Tryz.ntmps109,List.size_toArray,List.length_cons,List.length_nil,Nat.reduceAdd,Nat.reduceSub,Array.replicate_succ,Array.replicate_zero,List.push_toArray,List.append_toArray,List.nil_append,List.cons_append]
 refine wpIn_wide.2 ?_
 obtain⟨s3,t3⟩:=row_one e3
 have hs3:W2.heap.size<W3.heap.size:=z3
 go_wp2_with (fail)
 go_loopw [24] (fun i wr=>∃k:Nat,k<=m/\i=.int .i64 k/\Hid (∃ns:List Int,ig W1.heap.size wr ns/\ns.length=m/\(∀j,j<k->at0 ns j=1048576)/\wr.heap[W2.heap.size]? = some (.cells #[.slice (some ⟨W1.heap.size,0,none⟩) m m] 50 (0,0))/\Kept (fun j=>j≠W1.heap.size) W3 wr)) (fun i _=>(m - intOf i).toNat)
 case atStart=>exact⟨0,by omega,rfl,_,a3,by simp,(fun j h=>by omega),e3,Kept.refl _ _⟩
 case round =>
  obtain⟨k,hk,rfl,hH⟩:=hrel
  obtain⟨ns,hA,hnl,hf,hS,hK⟩:=hH.out
  obtain⟨s4,t4⟩:=row_one hS
  have z4:=(aF hS)
  by_cases hlt:k<m
  . have hki:(k:Int)<(m:Int):=by omega
    obtain⟨q0,q1⟩:=hA.cell (k:=k) (by omega)
    have zA:=hA.lt
    have hne:W1.heap.size≠W2.heap.size:=by omega
    have hfin:Hid (∃ns:List Int,ig W1.heap.size (wr.setCell ⟨W1.heap.size,k,none⟩ (.int .i64 1048576)) ns/\ns.length=m/\(∀j,j<k+1->at0 ns j=1048576)/\(wr.setCell ⟨W1.heap.size,k,none⟩ (.int .i64 1048576)).heap[W2.heap.size]? = some (.cells #[.slice (some ⟨W1.heap.size,0,none⟩) m m] 50 (0,0))/\Kept (fun j=>j≠W1.heap.size) W3 (wr.setCell ⟨W1.heap.size,k,none⟩ (.int .i64 1048576))):=ai
     ⟨_,hA.set k 1048576,by simpa using hnl,fun j hj=>by
      rw[Uo (by omega)]
      split
      . rfl
      . exact hf j (by omega),(Below.heap_setCell _ _ _ _ hne.symm).trans hS,hK.setCell (p:=⟨W1.heap.size,k,none⟩) (.inl fun h=>h rfl) _⟩
    clear hA hf hS hK hH
    go_wp2
    exact⟨⟨k+1,by omega,by go_num,hfin.out⟩,by simp[intOf];omega⟩
  . have hkm:k=m:=by omega
    subst hkm
    have hns:ns=List.replicate k 1048576:=by
     refine List.ext_getElem (by simpa using hnl) fun i h1 h2=>?_
     have:=hf i (by omega)
     simp only[at0,List.getD_eq_getElem?_getD,List.getElem?_eq_getElem h1,Option.getD_some] at this
     simpa using this
    subst hns
    obtain⟨fn,hfn⟩:=Int.eq_ofNat_of_zero_le hfr.1
    have hfl:fn<k:=by omega
    have awK:(fn:Int)<(k:Int):=by omega
    subst hfn
    obtain⟨q0,q1⟩:=hA.cell (k:=fn) (by simpa using hfl)
    have zA:=hA.lt
    have hne:W1.heap.size≠W2.heap.size:=by omega
    obtain⟨V,hV⟩:=aG (wr.setCell ⟨W1.heap.size,fn,none⟩ (.int .i64 0))
    have aV:ig W1.heap.size V (yT k fn):=by rw[<- hV];exact hA.set fn 0
    have sV:V.heap[W2.heap.size]? = some (.cells #[.slice (some ⟨W1.heap.size,0,none⟩) k k] 50 (0,0)):=by rw[<- hV];exact(Below.heap_setCell _ _ _ _ hne.symm).trans hS
    have kV:Kept (fun j=>j≠W1.heap.size) W3 V:=by rw[<- hV];exact hK.setCell (p:=⟨W1.heap.size,fn,none⟩) (.inl fun h=>h rfl) _
    have szV:W3.heap.size<=V.heap.size:=kV.size
    have xV:=(kV.block _ (aF x1) (by omega)).trans x1
    clear hA hf hS hK hH hnl
    go_upto_region 8 with fail
    clear hV q0 q1 s4 t4 z4 zA wr s3 t3
    obtain⟨V1,hV1⟩:=aG (V.alloc (quO (.slice none 0 0)))
    obtain⟨f1,g1,h1⟩:=boxedB hV1
    obtain⟨V2,hV2⟩:=aG (V1.alloc (.cells #[.pointer (some ⟨V.heap.size,0,none⟩)] 257))
    obtain⟨f2,g2,h2⟩:=boxedB hV2
    have f1':=ak g2 f1
    have hQ0:=oZ.nil V2.heap.size V2
    have aV2:=(aV.mono g1).mono g2
    have sV2:=ak g2 (ak g1 sV)
    have xV2:=ak g2 (ak g1 xV)
    have kV2:=(kV.trans (.all g1)).trans (.all g2)
    have kBe:=l_ V2.heap.size V.heap.size (.slice none 0 0) [] fn V2 hQ0 (by simp) (Nat.le_refl _) f1' (by omega)
    obtain⟨s5,t5⟩:=row_one f2
    clear f1 g1 g2 aV sV xV kV
    go_upto_region 10 with (go_at_call 165;(with_reducible refine ax kBe ?_);rintro e w6 ⟨rfl,v6,hu6⟩)
    have hz6:=hu6.kept.size
    have kTa:=XT V2.heap.size V.heap.size v6 fn [] w6 (by simpa using hu6.list) hu6.row (by omega) (by omega)
    have n6:∀j,j≠V.heap.size/\some j≠(Value.slice none 0 0).ownBlock↔j≠V.heap.size:=fun j=>by simp[Value.ownBlock]
    have k6:Kept (fun j=>j≠V.heap.size) V2 w6:=hu6.kept.mono fun j _ h=>(n6 j).2 h
    have aV6:=aV2.keep k6 (by omega)
    have sV6:=(k6.block _ (aF sV2) (by omega)).trans sV2
    have xV6:=(k6.block _ (aF xV2) (by omega)).trans xV2
    have f6:=(k6.block _ (aF f2) (by omega)).trans f2
    have kV6:Kept (fun j=>j≠W1.heap.size/\j<W3.heap.size) W3 w6:=(kV2.mono fun j _ h=>h.1).trans (k6.mono fun j _ h=>by omega)
    obtain⟨s6,t6⟩:=row_one f6
    have z6:=(aF f6)
    clear s5 t5 f2 aV2 sV2 xV2 kV2 n6 k6 kBe hQ0 hV1 hV2 f1'
    go_wp2_with (go_at_call 166;(with_reducible refine ax kTa ?_);rintro e w7 ⟨rfl,v7,hu7⟩)
    -- avb
    obtain⟨Y0,hY0⟩:=aG (w7.alloc (.cells #[.int .i64 (fn:Nat)] 3))
    obtain⟨eY,bY,zY⟩:=boxedB hY0
    rw[hY0]
    have hz7:=hu7.kept.size
    have n7:∀j,j≠V.heap.size/\some j≠v6.ownBlock->j≠V.heap.size:=fun j h=>h.1
    have o6:∀j,j<V2.heap.size->some j≠v6.ownBlock:=fun j hj e=>by have:=(hu6.list.lt j e.symm).1;omega
    have hw6:Below w.heap.size w w6:=hB3.trans (kV6.below (B:=w.heap.size) (by omega) fun j hj=>⟨by omega,by omega⟩)
    have hw7:Below w.heap.size w w7:=hw6.trans (hu7.kept.below (B:=w.heap.size) (by omega) fun j hj=>⟨by omega,o6 j (by omega)⟩)
    have hD0:Hid (DiL w we f V2.heap.size W1.heap.size W2.heap.size w.heap.size V1.heap.size V.heap.size k fn [] (yT k fn) [] fn w7.heap.size v7 true Y0):=ai
     ⟨⟨(aV6.keep hu7.kept ⟨by omega,o6 _ (by omega)⟩).mono bY,ak bY ((hu7.kept.block _ (aF sV6) ⟨by omega,o6 _ (by omega)⟩).trans sV6),ak bY ((hu7.kept.block _ (aF xV6) ⟨by omega,o6 _ (by omega)⟩).trans xV6),
      ak bY ((hu7.kept.block _ (aF f6) ⟨by omega,o6 _ (by omega)⟩).trans f6),ak bY hu7.row,hu7.list.mono bY,Marks.nil _ _,
      hw7.trans (bY.mono (by omega))⟩,
      eY,by omega,(fun e=>by have:=(hu7.list.lt _ e).2;omega),fun _=>⟨0,rfl⟩,(fun h=>by cases h),⟨by simp[yT],fun j hj=>aaL (by omega) hj,fun r hr=>by rcases List.mem_singleton.1 hr with rfl;omega⟩,YZ (by omega) (by omega)⟩
    obtain⟨rb,hrb⟩:=aG (w7.heap.size)
    rw[hrb] at hD0
    have hnum:Hid (w.heap.size<W1.heap.size/\W1.heap.size<W2.heap.size/\W2.heap.size<V.heap.size/\V.heap.size<V1.heap.size/\V1.heap.size<V2.heap.size/\lb<w.heap.size):=ai ⟨by omega,by omega,by omega,by omega,by omega,(aF hl.row)⟩
    have hl0:=ai hl
    have okh:=ai ok
    have hmr:we.aS=(k:Int):=hm
    replace hm:=ai hm
    refine wp_loop_ghost_k (fun n a wr=>∃(Ds:List Nat) (o q:List Int) (r:Int) (rb:Nat) (v:Value) (tk:Bool) (xs:SlD),Hid (DiL w we f V2.heap.size W1.heap.size W2.heap.size w.heap.size V1.heap.size V.heap.size k fn Ds o q r rb v tk wr)/\n=(if tk=true then meas (o,r :: q)+1 else 0) /\
     a = { tmps:=#[.pointer (some ⟨lb,0,none⟩),.int .i64 (fn:Nat),pcV f,xs.x3,xs.x4,.pointer (some ⟨w.heap.size,0,none⟩),.slice none 0 0,.pointer (some ⟨W2.heap.size,0,none⟩),xs.x8,.pointer (some ⟨V1.heap.size,0,none⟩),.pointer (some ⟨rb,0,none⟩),.bool tk,xs.x12,xs.x13,xs.x14,xs.x15,xs.x16,xs.x17,xs.x18,xs.x19,xs.x20,xs.x21,xs.x22,xs.x23,xs.x24,xs.x25,xs.x26,xs.x27,xs.x28,xs.x29,xs.x30,xs.x31,xs.x32,xs.x33,xs.x34,xs.x35,xs.x36,xs.x37,xs.x38,xs.x39,xs.x40,xs.x41,xs.x42,xs.x43,xs.x44,xs.x45,xs.x46,xs.x47,xs.x48,xs.x49,xs.x50,xs.x51,xs.x52,xs.x53,xs.x54,xs.x55,xs.x56,xs.x57,xs.x58,xs.x59,xs.x60,xs.x61,xs.x62,xs.x63,xs.x64,xs.x65,xs.x66,xs.x67,xs.x68,xs.x69,xs.x70,xs.x71,xs.x72,xs.x73,xs.x74,xs.x75,xs.x76,xs.x77,xs.x78,xs.x79,xs.x80,xs.x81,xs.x82,xs.x83,xs.x84],defers:=Ds.map alh }) (meas (yT k fn,[(fn:Int)])+1) ⟨[],_,_,_,rb,_,true,⟨_,_,_,_,_,_,_,_,_,_,_,_,_,_,_,_,_,_,_,_,_,_,_,_,_,_,_,_,_,_,_,_,_,_,_,_,_,_,_,_,_,_,_,_,_,_,_,_,_,_,_,_,_,_,_,_,_,_,_,_,_,_,_,_,_,_,_,_,_,_,_,_,_,_,_,_⟩,hD0,rfl,by rw[hrb];rfl⟩ ?_
    clear hD0 aV6 sV6 xV6 f6 kV6 s6 t6 z6 hu6 hu7 hw6 hw7 eY bY zY hY0 kTa n7 o6 v6 v7 hz6 hz7 hrb rb c0 c1 c2 c3 hmk hW1 hW2 hW3 hl a3 x1 e3 hB3 zl
    rintro _ _ wr ⟨Ds,o,q,r,rb,v,tk,xs,hD,rfl,rfl⟩ J K hJ hK
    obtain⟨d0,d1,d2,d3,d4,d5⟩:=hnum.out
    have st:=hD.out.st
    have zr:=(aF hD.out.room)
    cases tk
    . -- the end
      obtain⟨NN,hit⟩:=hD.out.no rfl
      obtain⟨s4,t4⟩:=row_one st.sl
      have z4:=(aF st.sl)
      have hM:=st.marks
      have hA:=ai st.arr
      have hBl:=ai st.bel
      have hlen:o.length=k:=hD.out.fine.len
      have hit2:=ai hit
      clear hD st hit
      go_wp2_with (fail)
      refine G_ Ds wr hM fun w' hb=>?_
      exact⟨.slice (some ⟨W1.heap.size,0,none⟩) k k,by simp[results,Tryz.results109,go_sem],W1.heap.size,NN,o,by rw[hmr];rfl,by rw[hmr];exact hit2.out,(hb.block _ (by omega)).trans hA.out,by rw[hlen,hmr];rfl,hBl.out.trans (hb.mono (by omega))⟩
    . obtain⟨NN,hit⟩:=hD.out.yes rfl
      have hit2:=ai hit
      have hfi:Fine k (o,r :: q):=hD.out.fine
      have hr:=hfi.aS r (List.mem_cons_self ..)
      have hstep:=ZY okh.out (tight:=oI f) (o:=o) (q:=q) (r:=r) (by rw[hmr];exact hfi)
      rw[hmr] at hstep
      have hst2:=ai hstep
      have amA:=ai hfi
      obtain⟨s4,t4⟩:=row_one st.sl
      have z4:=(aF st.sl)
      obtain⟨s5,t5⟩:=row_one hD.out.room
      have Lc:=hD
      have hBl:=st.bel
      have hlr:=hl0.out.mono hBl
      have rbB:=hD.out.rbB
      have kAt:=ai (anD lb r wr)
      obtain⟨X0,hX0⟩:=aG (wr.alloc (.cells #[.pointer (some ⟨lb,0,none⟩)] 149))
      obtain⟨g0,h0,y0⟩:=boxedB hX0
      obtain⟨X,hX⟩:=aG (X0.alloc (.cells #[.int .i64 r] 3))
      obtain⟨g1,h1,y1⟩:=boxedB hX
      have hsx:X.heap.size=wr.heap.size+2:=by rw[<- hX,<- hX0];simp
      have atd:X0.heap.size=wr.heap.size+1:=by rw[<- hX0];simp
      have g0':=ak h1 g0
      have F_:=aj h0 h1
      rw[hX0,hX] at kAt
      clear st hit hstep hfi g0 h0 h1 hD hX hX0
      go_wp2_with (go_at_call 167;(with_reducible refine ax kAt.out ?_);rintro e w8 ⟨rfl,hw8⟩;have hw9:=hw8.symm;subst hw9)
      have hps:=ai (fun j (hj:(Value.slice pa we.parts.length Aj).ownBlock=some j)=>aid hl0.out.parts (by have:=okh.out.parts;omega) hj)
      have hvo:=ai Lc.out.st.li.lt
      have amJ:=ai Lc.out.rbv
      refine(wpIn_wide (n:=0)).1 ?_
      refine RY (gf:=189) (lb:=#[.pointer (some ⟨wr.heap.size,0,none⟩),.pointer (some ⟨wr.heap.size+1,0,none⟩)]) (S:=fun j=>j=wr.heap.size\/j=wr.heap.size+1\/j=lb\/(Value.slice pa we.parts.length Aj).ownBlock=some j) rfl (fun args w=>by kernel_rfl)
       (acR we okh.out day r X _ lb wr.heap.size (wr.heap.size+1) _ (hlr.mono F_) g0' (by rw[<- atd];exact g1) (.inl rfl) (.inr (.inl rfl)) (.inr (.inr (.inl rfl))) (fun j hj=>.inr (.inr (.inr hj)))) ?hS (fun _=>rfl)
       (alP X V2.heap.size W1.heap.size V.heap.size (oI f) r o q v) ?hI ?h0 ?pI ?hdone
      case hS =>
       rintro j (h|h|h|h)
       . omega
       . omega
       . have:=hBl.size;omega
       . have:=hps.out j h;have:=hBl.size;omega
      case h0 =>
       have hst:=Lc.out.st
       exact⟨o,q,v,rfl,hst.arr.mono F_,ak F_ hst.qu,hst.li.mono F_,.inl rfl,Kept.refl _ _⟩
      case hI =>
       rintro pre A Z ⟨o',q',v',h1,h2,h3,h4,h5,h6⟩ hk
       have e1:W1.heap.size≠X.heap.size/\W1.heap.size≠X.heap.size+1:=by omega
       have e2:V.heap.size≠X.heap.size/\V.heap.size≠X.heap.size+1:=by omega
       refine⟨o',q',v',h1,h2.keep hk e1,(hk.block _ (aF h3) e2).trans h3,h4.kept hk (fun j hj=>?_),h5,h6.trans (hk.mono fun j _ h=>by omega)⟩
       rcases h5 with h|h|⟨m,h,h'⟩
       . have:=(hvo.out j (by rw[<- h];exact hj)).2;omega
       . rw[h] at hj;cases hj
       . rw[h] at hj;cases hj;omega
      case pI =>
       rintro l pre ⟨i,to⟩ W hl1 hlt hpre hKS hI
       obtain⟨m1,m2,m3⟩:=Ur (hpre.subset (show(i,to) ∈ pre ++ [(i,to)] by simp))
       simp only at m1 m2 m3
       have hti:=VG okh.out m1 r
       have h12:i<12:=by have:=okh.out.parts;omega
       rw[<- m2,hmr] at hti
       replace m2:=ai m2
       obtain⟨tn,htn⟩:=Int.eq_ofNat_of_zero_le m3
       obtain⟨rn,hrn⟩:=Int.eq_ofNat_of_zero_le hr.1
       subst htn hrn
       have htk:tn<k:=by omega
       have hrk:rn<k:=by omega
       obtain⟨o',q',v',h1,h2,h3,h4,h5,h6⟩:=hI
       have hfp:=Cj (tight:=oI f) hr pre (o,q) ⟨amA.out.len,amA.out.UB,fun x hx=>amA.out.aS x (List.mem_cons_of_mem _ hx)⟩ fun x hx=>by
        obtain⟨a,b,c⟩:=Ur (hpre.subset (List.mem_append_left _ hx))
        have:=VG okh.out a rn
        rw[<- b,hmr] at this
        omega
       rw[h1] at hfp
       have hol:o'.length=k:=hfp.1.len
       have hor:=hfp.1.UB rn hrk
       have hot:=hfp.1.UB tn htk
       have hql:q'.length<=100000000:=by
        have e1:=Lc.out.small
        have e2:=hfp.2
        simp only[if_true,meas,List.length_cons] at e1 e2
        omega
       have adl:∀j,v'.ownBlock=some j->V2.heap.size<=j/\j≠rb/\j≠wr.heap.size/\j≠wr.heap.size+1/\j≠X.heap.size/\j≠X.heap.size+1:=by
        intro j hj
        have hB:=(h4.lt j hj).1
        rcases h5 with h|h|⟨m,h,h'⟩
        . rw[h] at hj
          have:=(hvo.out j hj).2
          exact⟨hB,fun e=>amJ.out (e ▸ hj),by omega,by omega,by omega,by omega⟩
        . rw[h] at hj;cases hj
        . rw[h] at hj;cases hj;exact⟨hB,by omega,by omega,by omega,by omega,by omega⟩
       gi_wp2
       refine⟨Kept.refl _ _,?_⟩
       intro U2 hk2 hs2
       have a2:=h2.keep hk2 (by omega)
       have qu2:=(hk2.block _ (aF h3) (by omega)).trans h3
       have li2:=h4.kept hk2 (fun j hj=>by have:=adl j hj;omega)
       have h62:Kept (fun j=>j<X.heap.size/\j≠W1.heap.size/\j≠V.heap.size/\v.ownBlock≠some j) X U2:=h6.trans (hk2.mono fun j _ h=>by omega)
       have nv:∀j,j<V2.heap.size->v.ownBlock≠some j:=fun j hj e=>by have:=(hvo.out j e).1;omega
       have Nw:∀(n:Nat) (o:Obj),n≠W1.heap.size->n≠V.heap.size->v.ownBlock≠some n->wr.heap[n]? = some o->U2.heap[n]? = some o:=fun n o b c d e =>
        (h62.block n (by have:=(aF e);omega) ⟨by have:=(aF e);omega,b,c,d⟩).trans (ak F_ e)
       have pc2:=Nw _ _ (by omega) (by omega) (nv _ (by omega)) Lc.out.st.pc
       have sl2:=Nw _ _ (by omega) (by omega) (nv _ (by omega)) Lc.out.st.sl
       have qp2:=Nw _ _ (by omega) (by omega) (nv _ (by omega)) Lc.out.st.qp
       have rm2:=Nw _ _ (by omega) (by omega) amJ.out Lc.out.room
       obtain⟨p0,p1⟩:=Vm pc2 h12
       have zp2:=(aF pc2)
       have kT:=ai (adO (f i).1 (f i).2 U2)
       have awM:(i:Int)<12:=by omega
       replace adl:=ai adl
       replace h1:=ai h1
       replace h62:=ai h62
       replace hpre:=ai hpre
       have h5h:=ai h5
       have hsz:X.heap.size+2<=U2.heap.size:=by have:=hk2.size;omega
       clear h2 h3 h4 h5 h6 hk2 hs2 Nw hKS hti
       gi_wp2
       refine⟨trivial,rfl,(CallsIn.inRound _ (callsIn_wide.2 kT.out)).mono ?_⟩
       rintro e U3 ⟨rfl,hB3⟩
       obtain⟨tb,amN⟩:=aG (oI f i)
       have apS:(decide ((f i).1=0) && !(f i).2)=tb:=amN
       have htb:=ai amN
       rw[apS]
       clear amN apS kT p0 p1 pc2
       have a3:=a2.mono hB3
       have qu3:=ak hB3 qu2
       have li3:=li2.mono hB3
       have sl3:=ak hB3 sl2
       have qp3:=ak hB3 qp2
       have rm3:=ak hB3 rm2
       obtain⟨y1,-⟩:=row_one sl3
       obtain⟨y2,-⟩:=row_one rm3
       obtain⟨y3,-⟩:=row_one qp3
       obtain⟨y4,-⟩:=a3.cell (k:=rn) (by omega)
       obtain⟨y5,y6⟩:=a3.cell (k:=tn) (by omega)
       have u1:=(aF sl3)
       have u2:=(aF rm3)
       have u3:=(aF qp3)
       have u4:=a3.lt
       have hbit:=Uu tb
       have hw:IntKind.i64.wrap (at0 o' rn+FC tb)=at0 o' rn+FC tb:=IntWalk.i64_in _ (by omega)
       have kBi:Hid (∀g:Grow U3,Calls Tryz.prog 169 #[.bool tb] g.x (dI (.int .i64 (FC tb)) g.x)):=ai fun g=>(ajX tb g.x).mono fun e w' h=>⟨h.1,by rw[h.2];exact Below.refl _ _⟩
       have hg:=az U3
       have hgf:=dG U3
       have q1:(rn:Int)<(k:Int):=by omega
       have q2:(tn:Int)<(k:Int):=by omega
       have zU:=hB3.size
       gi_wp2_with (fail)
       refine zJ (.inr ⟨_,rfl⟩) 7 (by kernel_rfl) (by kernel_rfl) (by kernel_rfl) ?_
       simp only[List.take_succ_cons,List.take_zero,List.drop_succ_cons,List.drop_zero]
       repeat (go_big_quiet_step (first|(go_at_call 169;with_reducible exact Calls.grow (kBi.out _))))
       refine wpQuiet_nil ?_
       rintro _ ⟨g3,rfl⟩
       have zg:=g3.size
       by_cases hle0:at0 o' tn<=at0 o' rn+FC tb
       . have hle:=ai hle0
         gi_wp2_with (fail)
         have hkU:Kept (fun _=>True) U2 g3.x:=(Kept.all hB3).trans (.all g3.h)
         exact⟨hkU.mono fun _ _ _=>trivial,o',q',v',by rw[Cm,h1.out];exact ZP htb.out hle.out,a3.mono g3.h,ak g3.h qu3,li3.mono g3.h,h5h.out,h62.out.trans (hkU.mono fun _ _ _=>trivial)⟩
       . have hle:=ai hle0
         obtain⟨Z,hZ⟩:=aG (g3.x.setCell ⟨W1.heap.size,tn,none⟩ (.int .i64 (at0 o' rn+FC tb)))
         have aZ:ig W1.heap.size Z (o'.set tn (at0 o' rn+FC tb)):=by rw[<- hZ];exact(a3.mono g3.h).set tn _
         have kg:Kept (fun j=>j≠W1.heap.size) g3.x Z:=by rw[<- hZ];exact(Kept.refl _ _).setCell (p:=⟨W1.heap.size,tn,none⟩) (.inl fun h=>h rfl) _
         have zZ:=kg.size
         have quZ:=(kg.block _ (by omega) (by omega:V.heap.size≠W1.heap.size)).trans (ak g3.h qu3)
         have liZ:=(li3.mono g3.h).kept kg (fun j hj=>by have:=adl.out j hj;omega)
         have qpZ:=(kg.block _ (by omega) (by omega:V1.heap.size≠W1.heap.size)).trans (ak g3.h qp3)
         have kZ:Kept (fun j=>j≠W1.heap.size) U2 Z:=((Kept.all hB3).trans (.all g3.h)).trans kg
         obtain⟨w1,-⟩:=row_one qpZ
         have w2:=(aF qpZ)
         clear kg
         cases tb
         . have hu0:=ai (adD V2.heap.size V.heap.size v' q' tn Z liZ hql (by omega) quZ (by omega))
           gi_wp2
           refine⟨trivial,rfl,(CallsIn.inRound _ (callsIn_wide.2 hu0.out)).mono ?_⟩
           rintro e Y ⟨rfl,v2,hu⟩
           have hkU:∀T:Nat->Prop,(∀j,T j->j≠W1.heap.size/\j≠V.heap.size/\v'.ownBlock≠some j)->Kept T U2 Y:=fun T hT=>(kZ.mono fun j _ h=>(hT j h).1).trans (hu.kept.mono fun j _ h=>⟨(hT j h).2.1,fun e=>(hT j h).2.2 e.symm⟩)
           have hR:alP X V2.heap.size W1.heap.size V.heap.size (oI f) rn o q v (pre ++ [(i,(tn:Int))]) Y:=by
            refine⟨o'.set tn (at0 o' rn+FC false),tn :: q',v2,by rw[Cm,h1.out];exact Yd htb.out (by have:=hle.out;omega),aZ.keep hu.kept ⟨by omega,own_ne liZ (by omega)⟩,hu.row,hu.list,?_,h62.out.trans (hkU _ fun j h=>⟨h.2.1,h.2.2.1,fun e=>?_⟩)⟩
            . rcases hu.own with h|h|⟨m,h,h'⟩
              . rw[h];exact h5h.out
              . exact .inr (.inl h)
              . exact .inr (.inr ⟨m,h,by omega⟩)
            . rcases h5h.out with h'|h'|⟨m,h',h''⟩
              . exact h.2.2.2 (h' ▸ e)
              . rw[h'] at e;cases e
              . rw[h'] at e;cases e;omega
           have hK:Kept (fun j=>(j=wr.heap.size\/j=wr.heap.size+1\/j=lb\/(Value.slice pa we.parts.length Aj).ownBlock=some j)\/j=X.heap.size\/j=X.heap.size+1) U2 Y:=hkU _ fun j h=>by
            have hp:=fun e=>hps.out j e
            have hv:=adl.out j
            refine⟨?_,?_,fun e=>?_⟩
            . rcases h with (h|h|h|h)|h|h
              all_goals first|omega|(have:=hp h;omega)
            . rcases h with (h|h|h|h)|h|h
              all_goals first|omega|(have:=hp h;omega)
            . have h9:=hv e
              rcases h with (h|h|h|h)|h|h
              all_goals first|omega|(have:=hp h;omega)
           clear hu0 hkU
           rw[hsx] at hK
           gi_wp2
           exact⟨hK,hR⟩
         . have hu0:=ai (l_ V2.heap.size V.heap.size v' q' tn Z liZ hql (by omega) quZ (by omega))
           gi_wp2
           refine⟨trivial,rfl,(CallsIn.inRound _ (callsIn_wide.2 hu0.out)).mono ?_⟩
           rintro e Y ⟨rfl,v2,hu⟩
           have hkU:∀T:Nat->Prop,(∀j,T j->j≠W1.heap.size/\j≠V.heap.size/\v'.ownBlock≠some j)->Kept T U2 Y:=fun T hT=>(kZ.mono fun j _ h=>(hT j h).1).trans (hu.kept.mono fun j _ h=>⟨(hT j h).2.1,fun e=>(hT j h).2.2 e.symm⟩)
           have hR:alP X V2.heap.size W1.heap.size V.heap.size (oI f) rn o q v (pre ++ [(i,(tn:Int))]) Y:=by
            refine⟨o'.set tn (at0 o' rn+FC true),q' ++ [(tn:Int)],v2,by rw[Cm,h1.out];exact Yd htb.out (by have:=hle.out;omega),aZ.keep hu.kept ⟨by omega,own_ne liZ (by omega)⟩,hu.row,hu.list,?_,h62.out.trans (hkU _ fun j h=>⟨h.2.1,h.2.2.1,fun e=>?_⟩)⟩
            . rcases hu.own with h|h|⟨m,h,h'⟩
              . rw[h];exact h5h.out
              . exact .inr (.inl h)
              . exact .inr (.inr ⟨m,h,by omega⟩)
            . rcases h5h.out with h'|h'|⟨m,h',h''⟩
              . exact h.2.2.2 (h' ▸ e)
              . rw[h'] at e;cases e
              . rw[h'] at e;cases e;omega
           have hK:Kept (fun j=>(j=wr.heap.size\/j=wr.heap.size+1\/j=lb\/(Value.slice pa we.parts.length Aj).ownBlock=some j)\/j=X.heap.size\/j=X.heap.size+1) U2 Y:=hkU _ fun j h=>by
            have hp:=fun e=>hps.out j e
            have hv:=adl.out j
            refine⟨?_,?_,fun e=>?_⟩
            . rcases h with (h|h|h|h)|h|h
              all_goals first|omega|(have:=hp h;omega)
            . rcases h with (h|h|h|h)|h|h
              all_goals first|omega|(have:=hp h;omega)
            . have h9:=hv e
              rcases h with (h|h|h|h)|h|h
              all_goals first|omega|(have:=hp h;omega)
           clear hu0 hkU
           rw[hsx] at hK
           gi_wp2
           exact⟨hK,hR⟩
      case hdone =>
       rintro D Y hDX hI hkX hDm
       obtain⟨o',q',v',h1,h2,h3,h4,h5,h6⟩:=hI
       have hst3:MF (oI f) we.parts (o,r :: q)=(o',q'):=h1
       rw[hst3] at hst2
       have hits:Hid (qN (oI f) we.parts (NN+1) (yT k (fn:Int),[(fn:Int)])=(o',q')):=ai (by
        show MF _ _ (qN _ _ NN _)=_
        rw[hit2.out];exact hst3)
       have zkX:=hkX.size
       have zwr:=hBl.size
       have zD:D<Y.heap.size:=(aF hDm)
       have nv:∀j,j<V2.heap.size->v.ownBlock≠some j:=fun j hj e=>by have:=(hvo.out j e).1;omega
       have Nw:∀(n:Nat) (ob:Obj),n≠W1.heap.size->n≠V.heap.size->v.ownBlock≠some n->wr.heap[n]? = some ob->Y.heap[n]? = some ob:=fun n ob b c d e =>
        (h6.block n (by have:=(aF e);omega) ⟨by have:=(aF e);omega,b,c,d⟩).trans (ak F_ e)
       have pcY:=Nw _ _ (by omega) (by omega) (nv _ (by omega)) Lc.out.st.pc
       have slY:=Nw _ _ (by omega) (by omega) (nv _ (by omega)) Lc.out.st.sl
       have qpY:=Nw _ _ (by omega) (by omega) (nv _ (by omega)) Lc.out.st.qp
       have rmY:=Nw _ _ (by omega) (by omega) amJ.out Lc.out.room
       have hM0:=Lc.out.st.marks
       have hMY:Marks V2.heap.size (D :: Ds) Y:=Marks.cons hM0 (fun n hn=>by
        have hr:=(hM0.on n hn).2
        have hb:=(hM0.on n hn).1
        rw[hr]
        exact Nw n _ (by omega) (by omega) (Lc.out.st.li.not_def hr) hr) (by omega) (by omega) hDm
       have no':∀j,j<V2.heap.size->v'.ownBlock≠some j:=fun j hj e=>by have:=(h4.lt j e).1;omega
       have hBY:Below w.heap.size w Y:=hBl.trans (((Kept.all (F_:Below wr.heap.size wr X)).trans (h6.mono fun j hj h=>h)).below (B:=w.heap.size) (by omega) fun j hj=>⟨by omega,by omega,by omega,nv j (by omega)⟩)
       have fin:∀(F:World) (list:List Int) (x:Int) (tk:Bool) (v2:Value),Kept (fun j=>j<Y.heap.size/\j≠V.heap.size/\v'.ownBlock≠some j) Y F->oZ V2.heap.size F v2 list->F.heap[V.heap.size]? = some (quO v2) ->
           F.heap[Y.heap.size]? = some (.cells #[.int .i64 x] 3 (0,0))->v2.ownBlock≠some Y.heap.size->(tk=true->q'=x :: list)->(tk=false->q'=[]/\list=[]) ->
           Hid (DiL w we f V2.heap.size W1.heap.size W2.heap.size w.heap.size V1.heap.size V.heap.size k fn (D :: Ds) o' list x Y.heap.size v2 tk F):=by
        intro F list x tk v2 kF hl hq hx hv ht hf
        have zF:=kF.size
        have hs:=hst2.out
        have hqq:(if tk=true then x :: list else [])=q':=by
         cases tk
         . exact(hf rfl).1.symm
         . exact(ht rfl).symm
        have rK:∀(n:Nat) (ob:Obj),n≠V.heap.size->v'.ownBlock≠some n->Y.heap[n]? = some ob->F.heap[n]? = some ob:=fun n ob b d e =>
         (kF.block n (aF e) ⟨(aF e),b,d⟩).trans e
        refine ai ⟨⟨h2.keep kF ⟨by omega,by omega,no' _ (by omega)⟩,rK _ _ (by omega) (no' _ (by omega)) slY,rK _ _ (by omega) (no' _ (by omega)) pcY,rK _ _ (by omega) (no' _ (by omega)) qpY,hq,hl,
         hMY.mono fun n hn=>?_,hBY.trans (kF.below (B:=w.heap.size) (by omega) fun j hj=>⟨by omega,by omega,no' j (by omega)⟩)⟩,hx,by omega,hv,fun h=>⟨NN+1,by rw[hits.out,ht h]⟩,fun h=>⟨NN+1,by rw[hits.out,(hf h).1]⟩,?_,?_⟩
        . have hr:=(hMY.on n hn).2
          have hb:=(hMY.on n hn).1
          rw[hr]
          exact rK n _ (by omega) (h4.not_def hr) hr
        . rw[hqq];exact hs.1
        . rw[hqq]
          have h9:=Lc.out.small
          simp only[if_true] at h9
          omega
       have api:=ai fin
       clear fin Nw h6 hst3 h1 pcY slY hMY hBY
       simp only[Exit.inBlock,Exit.then]
       obtain⟨Z,hZ⟩:=aG (Y.alloc (.cells #[.int .i64 r] 3))
       obtain⟨rmZ,bZ,zZ⟩:=boxedB hZ
       have liZ:=h4.mono bZ
       have quZ:=ak bZ h3
       have qpZ:=ak bZ qpY
       obtain⟨c1,e1⟩:=row_one rmY
       obtain⟨c2,e2⟩:=row_one qpZ
       obtain⟨c3,e3⟩:=row_one rmZ
       have z1:=(aF rmY)
       have z2:=(aF qpZ)
       have z3:=(aF rmZ)
       have l4:=ai h4.lt
       cases q' with
       | nil =>
        have kT:=ai (adN V2.heap.size V.heap.size v' Z liZ quZ)
        go_wp2_with (go_at_call 166;(with_reducible refine ax kT.out ?_);rintro e Y3 ⟨rfl,hY3⟩;have hY4:=hY3.symm;subst hY4)
        have Zj:=api.out (Z.setCell ⟨Y.heap.size,0,none⟩ (.int .i64 0)) [] 0 false v' (((Kept.all bZ).trans ((Kept.refl (fun j=>j<Y.heap.size) _).setCell (p:=⟨Y.heap.size,0,none⟩) (.inl (Nat.lt_irrefl _)) _)).mono fun j _ h=>h.1)
         (liZ.kept ((Kept.refl (fun j=>j≠Y.heap.size) _).setCell (p:=⟨Y.heap.size,0,none⟩) (.inl fun h=>h rfl) _) fun j hj e=>by have:=(l4.out _ hj).2;omega)
         ((((Kept.refl (fun j=>j≠Y.heap.size) _).setCell (p:=⟨Y.heap.size,0,none⟩) (.inl fun h=>h rfl) (.int .i64 0)).block _ (by omega) (by omega:V.heap.size≠Y.heap.size)).trans quZ)
         (aX rmZ 0 _) (fun e=>by have:=(l4.out _ e).2;omega) (fun h=>by cases h) (fun _=>by simp)
        cases xs
        dsimp only
        refine Handed.intro 0 (by omega) (hJ _ _ _ ?_)
        exact⟨D :: Ds,o',[],0,Y.heap.size,v',false,⟨_,_,_,_,_,_,_,_,_,_,_,_,_,_,_,_,_,_,_,_,_,_,_,_,_,_,_,_,_,_,_,_,_,_,_,_,_,_,_,_,_,_,_,_,_,_,_,_,_,_,_,_,_,_,_,_,_,_,_,_,_,_,_,_,_,_,_,_,_,_,_,_,_,_,_,_⟩,Zj,rfl,rfl⟩
       | cons x xs' =>
        have kT:=ai (XT V2.heap.size V.heap.size v' x xs' Z liZ quZ (by omega) (by omega))
        go_wp2_with (go_at_call 166;(with_reducible refine ax kT.out ?_);rintro e Y3 ⟨rfl,v2,hu⟩;have aqk:=(hu.kept.block Y.heap.size z3 ⟨by omega,fun e=>by have:=(l4.out _ e.symm).2;omega⟩).trans rmZ;have zY3:=hu.kept.size;obtain⟨c5,e5⟩:=row_one aqk)
        have aql:v2.ownBlock≠some Y.heap.size:=by
         rcases hu.own with h|h|⟨m,h,h'⟩
         . rw[h];exact fun e=>by have:=(l4.out _ e).2;omega
         . rw[h];exact fun e=>by cases e
         . rw[h];exact fun e=>by cases e;omega
        have Zj:=api.out (Y3.setCell ⟨Y.heap.size,0,none⟩ (.int .i64 x)) xs' x true v2 (((((Kept.all bZ).mono fun j hj _=>hj).trans (hu.kept.mono fun j _ (h:j<Y.heap.size/\j≠V.heap.size/\v'.ownBlock≠some j)=>⟨h.2.1,fun e=>h.2.2 e.symm⟩)).trans ((Kept.refl (fun j=>j<Y.heap.size/\j≠V.heap.size/\v'.ownBlock≠some j) _).setCell (p:=⟨Y.heap.size,0,none⟩) (.inl fun h=>Nat.lt_irrefl _ h.1) _)))
         (hu.list.kept ((Kept.refl (fun j=>j≠Y.heap.size) _).setCell (p:=⟨Y.heap.size,0,none⟩) (.inl fun h=>h rfl) _) fun j hj e=>aql (e ▸ hj))
         ((((Kept.refl (fun j=>j≠Y.heap.size) _).setCell (p:=⟨Y.heap.size,0,none⟩) (.inl fun h=>h rfl) (.int .i64 x)).block _ (by omega) (by omega:V.heap.size≠Y.heap.size)).trans hu.row)
         (aX aqk 0 _) aql (fun _=>rfl) (fun h=>by cases h)
        have awT:=hst2.out.2
        cases xs
        dsimp only
        refine Handed.intro (meas (o',x :: xs')+1) (by omega) (hJ _ _ _ ?_)
        exact⟨D :: Ds,o',xs',x,Y.heap.size,v2,true,⟨_,_,_,_,_,_,_,_,_,_,_,_,_,_,_,_,_,_,_,_,_,_,_,_,_,_,_,_,_,_,_,_,_,_,_,_,_,_,_,_,_,_,_,_,_,_,_,_,_,_,_,_,_,_,_,_,_,_,_,_,_,_,_,_,_,_,_,_,_,_,_,_,_,_,_,_⟩,Zj,rfl,rfl⟩
