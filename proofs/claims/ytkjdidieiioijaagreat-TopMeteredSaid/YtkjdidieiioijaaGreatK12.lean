/- Walks. -/
import Derived.MapKept
import Derived.Maps.OwnOps
import Derived.Recover
import Derived.Defers
import Derived.Laws.Pointers
import Derived.Test.YtkjdidieiioijaaGreatK10
import Derived.Test.YtkjdidieiioijaaGreatK11
set_option linter.all false
set_option maxRecDepth 100000
set_option maxHeartbeats 16000000
namespace Go.Proofs.YtkjdidieiioijaaGreat.G
open Go.RowKit Go.Sd Go.MapKept bz
theorem yE:Tryz.prog.underlying 41=some (.int .i64):=by kernel_rfl
theorem VE {w:World}{r:Nat}{es:Array MapEntry}{clock:Nat}{k:Int}{v:Value}(h:w.heap[r]? = some (.map es clock))(hn:Instr.findNow (.int .i64) (.int .i64 k) es.toList 0=some none) :
    (Instr.mapUpdate 194 (.map (some r)) (.int .i64 k) v).run Tryz.prog w=.ok () (w.putObj r (.map (es.push ⟨.int .i64 k,v,clock⟩) (clock+1))):=by
 have h1:=run_checkKey (P:=Tryz.prog) (w:=w) yE (k:=.int .i64 k) (by simp[IsKey]) false 9999
 have h2:=run_findKey (P:=Tryz.prog) (w:=w) (a:=none) yE hn
 simp[Instr.mapUpdate,run_underlying Tryz.underlying194,Sem.run_bind,getObj,setObj,Sem.run,h,Result.andThen,h1,h2,World.putObj]
abbrev Gj:Array MapEntry:=#[⟨.int .i64 1,.func (.func 130) #[] #[],0⟩,⟨.int .i64 2,.func (.func 131) #[] #[],1⟩,⟨.int .i64 3,.func (.func 132) #[] #[],2⟩]
theorem Tu (w:World):Calls Tryz.prog 76 #[] w fun e w'=>e=.returned (.map (some w.heap.size))/\w'.heap[w.heap.size]? = some (.map Gj 3)/\Below w.heap.size w w':=by
 have hmk:∀w,(Instr.makeMap 194 none).run Tryz.prog w=.ok (.map (some w.heap.size)) (w.alloc (.map #[] 0)):=fun w=>by simp[Instr.makeMap,run_underlying Tryz.underlying194]
 obtain⟨W0,hW0⟩:=aG (w.alloc (.map #[] 0))
 have e0:W0.heap[w.heap.size]? = some (.map #[] 0):=by rw[<- hW0];exact World.alloc_heap_new w _
 have b0:Below w.heap.size w W0:=by rw[<- hW0];exact(Below.refl _ _).alloc (Nat.le_refl _) _
 have z0:=(aF e0)
 have u1:=VE (k:=1) (v:=.func (.func 130) #[] #[]) e0 rfl
 obtain⟨W1,hW1⟩:=aG (W0.putObj w.heap.size (.map #[⟨.int .i64 1,.func (.func 130) #[] #[],0⟩] 1))
 have u1':(Instr.mapUpdate 194 (.map (some w.heap.size)) (.int .i64 1) (.func (.func 130) #[] #[])).run Tryz.prog W0=.ok () W1:=by rw[<- hW1];exact u1
 have e1:W1.heap[w.heap.size]? = some (.map #[⟨.int .i64 1,.func (.func 130) #[] #[],0⟩] 1):=by rw[<- hW1];exact World.putObj_heap_same z0
 have b1:Below w.heap.size w W1:=by rw[<- hW1];exact dZ b0 (Nat.le_refl _) _
 have z1:=(aF e1)
 have u2:=VE (k:=2) (v:=.func (.func 131) #[] #[]) e1 rfl
 obtain⟨W2,hW2⟩:=aG (W1.putObj w.heap.size (.map #[⟨.int .i64 1,.func (.func 130) #[] #[],0⟩,⟨.int .i64 2,.func (.func 131) #[] #[],1⟩] 2))
 have u2':(Instr.mapUpdate 194 (.map (some w.heap.size)) (.int .i64 2) (.func (.func 131) #[] #[])).run Tryz.prog W1=.ok () W2:=by rw[<- hW2];exact u2
 have e2:W2.heap[w.heap.size]? = some (.map #[⟨.int .i64 1,.func (.func 130) #[] #[],0⟩,⟨.int .i64 2,.func (.func 131) #[] #[],1⟩] 2):=by rw[<- hW2];exact World.putObj_heap_same z1
 have b2:Below w.heap.size w W2:=by rw[<- hW2];exact dZ b1 (Nat.le_refl _) _
 have z2:=(aF e2)
 have u3:=VE (k:=3) (v:=.func (.func 132) #[] #[]) e2 rfl
 obtain⟨W3,hW3⟩:=aG (W2.putObj w.heap.size (.map Gj 3))
 have u3':(Instr.mapUpdate 194 (.map (some w.heap.size)) (.int .i64 3) (.func (.func 132) #[] #[])).run Tryz.prog W2=.ok () W3:=by rw[<- hW3];exact u3
 have e3:W3.heap[w.heap.size]? = some (.map Gj 3):=by rw[<- hW3];exact World.putObj_heap_same z2
 have b3:Below w.heap.size w W3:=by rw[<- hW3];exact dZ b2 (Nat.le_refl _) _
 replace e3:=ai e3
 clear u1 u2 u3 hW1 hW2 hW3 e0 e1 e2 z0 z1 z2 b0 b1 b2
 go_enter Tryz.func76,Tryz.ntmps76
 go_wp2
 go_ret
 exact⟨rfl,e3.out,b3⟩
theorem Yh {w:World}{r:Nat}{k:Int}{f:Nat}(h:w.heap[r]? = some (.map Gj 3))(hk:(k=1/\f=130)\/(k=2/\f=131)\/(k=3/\f=132)) :
    (Instr.lookup 194 (.map (some r)) (.int .i64 k) false).run Tryz.prog w=.ok (.func (.func f) #[] #[]) w:=by
 have h1:=run_checkKey (P:=Tryz.prog) (w:=w) yE (k:=.int .i64 k) (by simp[IsKey]) false 9999
 have h2:∃i,(Instr.findKey 41 (.int .i64 k) Gj.toList).run Tryz.prog w=.ok (some (i,.func (.func f) #[] #[])) w:=by
  rcases hk with ⟨rfl,rfl⟩|⟨rfl,rfl⟩|⟨rfl,rfl⟩
  . exact⟨0,run_findKey yE rfl⟩
  . exact⟨1,run_findKey yE rfl⟩
  . exact⟨2,run_findKey yE rfl⟩
 obtain⟨i,h2⟩:=h2
 have h3:Gj.isEmpty=false:=rfl
 simp only[Gj] at h h1 h2 h3
 simp[Instr.lookup,run_underlying Tryz.underlying194,Sem.run_bind,getObj,Sem.run,h,Result.andThen,h1,h2,h3]
end Go.Proofs.YtkjdidieiioijaaGreat.G
namespace Go.Proofs.YtkjdidieiioijaaGreat.G
open Go.RowKit Go.Sd bz
abbrev ak9 (s:ByteArray):Value:=.iface 197 (.agg #[.string s])
theorem YW (b:Nat)(x:Bool)(s:ByteArray)(older:List PanicEntry)(w:World)(hc:w.cell? ⟨b,0,none⟩=some (.bool x))(hz:w.frozen? ⟨b,0,none⟩=false) :
    CallsD Tryz.prog 77 #[.pointer (some ⟨b,0,none⟩)] (.panicking ({ v:=ak9 s,recovered:=false } :: older)) w fun e u' w' =>
     e=.returned (.tuple #[])/\u'=.panicking ({ v:=ak9 s,recovered:=true } :: older)/\w'=(w.setCell ⟨b,0,none⟩ (.bool false)).alloc (.cells #[.string s] 197):=by
 have hta:∀w,(Instr.typeAssert (.iface 197 (.agg #[.string s])) 20 197 true).run Tryz.prog w=.ok (.tuple #[.agg #[.string s],.bool true]) w:=fun w=>by kernel_rfl
 have hb:=World.block_lt_of_cell? w ⟨b,0,none⟩ hc
 simp only at hb
 have hne:¬ b=w.heap.size:=by omega
 refine callsD_of_wpS Tryz.func77 rfl fun c₀ cs hu=>?_
 apply wpS_seq
 apply wpS_region
 simp[wpOpsS,go_sem,recoverD,hu,Tryz.ntmps77,Exit.thenS]
 refine wpS_of_wp ?_
 go_wp2
 simp[bodyPostS,results,Tryz.results77,go_sem]
theorem ac5 (p:Addr)(w:World) :
    CallsD Tryz.prog 77 #[.pointer (some p)] .returning w fun e u' w'=>e=.returned (.tuple #[])/\u'=.returning/\w'=w:=by
 refine callsD_of_wpS Tryz.func77 rfl fun c₀ cs hu=>?_
 apply wpS_seq
 apply wpS_region
 simp[wpOpsS,go_sem,recoverD,hu,Tryz.ntmps77,Exit.thenS]
 refine wpS_of_wp ?_
 go_wp2
 cases c₀
 simp_all [bodyPostS,results,Tryz.results77,go_sem]
def aoB (n:Nat)(R:World->Prop)(e:Ending)(w'':World):Prop:=e=.returned (.bool true)/\∃w',R w'/\w''=w'.setCell ⟨n,0,none⟩ (.bool true)
theorem Tt {fn:Nat}{cap:Array Value}(w W:World)(R:World->Prop)(hW:w.alloc (.cells #[.bool false] 4)=W)(en:∀args w,(callFunc fn args).run Tryz.prog w=.ok (.enter fn args) w)
    (hcall:Calls Tryz.prog fn cap W fun e w'=>e=.returned (.tuple #[])/\w'.heap[w.heap.size]? = W.heap[w.heap.size]?/\R w') :
    Calls Tryz.prog 30 #[.func (.func fn) #[] cap] w (aoB w.heap.size R):=by
 have hmf:∀(fn:Fn) (first cap:Array Value) (w:World),(Instr.makeFunc fn first cap).run Tryz.prog w=.ok (.func fn first cap) w:=fun _ _ _ _=>rfl
 obtain⟨e0,b0,s0⟩:=boxed hW
 clear s0 b0
 have UZ:=ai hcall
 replace e0:=ai e0
 clear hcall
 go_enter_defers Tryz.func30,Tryz.ntmps30
 go_wp2
 refine ax UZ.out ?_
 rintro e w' ⟨rfl,hb,hR⟩
 obtain⟨z0,d0,f0⟩:=ah (hb.trans e0.out)
 have c0:=d0 0
 have c1:=f0 0
 simp only[List.getElem?_toArray,List.getElem?_cons_zero] at c0
 clear d0 f0 hb UZ
 replace hR:=ai hR
 go_wp2
 refine leaves_cons (f:=77) (args:=#[.pointer (some ⟨w.heap.size,0,none⟩)]) (by simp) (by simp[go_sem]) ?_
 refine(ac5 ⟨w.heap.size,0,none⟩ _).mono ?_
 rintro e u' w'' ⟨rfl,rfl,rfl⟩
 have n2:(w'.setCell ⟨w.heap.size,0,none⟩ (.bool true)).cell? ⟨w.heap.size,0,none⟩=some (.bool true):=World.cell?_setCell_same' _ _ _ (by rw[c0];rfl)
 simp[Leaves,settle,results,Tryz.results30,go_sem,n2]
 exact⟨rfl,w',hR.out,rfl⟩
theorem adI {fn:Nat}{cap:Array Value}(w W:World)(hW:w.alloc (.cells #[.bool false] 4)=W)(en:∀args w,(callFunc fn args).run Tryz.prog w=.ok (.enter fn args) w)
    (hcall:Calls Tryz.prog fn cap W (jI W)) :
    Calls Tryz.prog 30 #[.func (.func fn) #[] cap] w fun e w''=>e=.returned (.bool false)/\Below w.heap.size w w'':=by
 have hmf:∀(fn:Fn) (first cap:Array Value) (w:World),(Instr.makeFunc fn first cap).run Tryz.prog w=.ok (.func fn first cap) w:=fun _ _ _ _=>rfl
 obtain⟨e0,b0,s0⟩:=boxed hW
 have hle:w.heap.size<=W.heap.size:=b0.size
 clear s0
 have UZ:=ai hcall
 replace e0:=ai e0
 clear hcall
 go_enter_defers Tryz.func30,Tryz.ntmps30
 go_wp2
 refine ax UZ.out ?_
 rintro e w' ⟨str,rfl,hB⟩
 obtain⟨z0,d0,f0⟩:=ah ((hB.block _ (aF e0.out)).trans e0.out)
 have c0:=d0 0
 have c1:=f0 0
 simp only[List.getElem?_toArray,List.getElem?_cons_zero] at c0
 refine leaves_cons (f:=77) (args:=#[.pointer (some ⟨w.heap.size,0,none⟩)]) (by simp) (by simp[go_sem]) ?_
 refine(YW w.heap.size false str [] _ c0 c1).mono ?_
 rintro e u' w'' ⟨rfl,rfl,rfl⟩
 have n2:((w'.setCell ⟨w.heap.size,0,none⟩ (.bool false)).alloc (.cells #[.string str] 197)).cell? ⟨w.heap.size,0,none⟩=some (.bool false):=ae ((Below.refl _ _).alloc (Nat.le_refl _) _) (World.cell?_setCell_same' _ _ _ (by rw[c0];rfl))
 simp[Leaves,settle,results,Tryz.results30,go_sem,n2]
 have hbs:=(b0.trans (hB.mono hle)).setCell (p:=⟨w.heap.size,0,none⟩) (Nat.le_refl _) (.bool false)
 exact hbs.alloc hbs.size _
abbrev upV (s:ByteArray):List PanicEntry:=[{ v:=.iface 197 (.agg #[.string s]),recovered:=false }]
def ah3 (b3 b4:Nat)(n:St)(q:bz.Out)(X:World)(e:Ending)(w':World):Prop:=e=.returned (.tuple #[])/\X.heap.size<=w'.heap.size/\w'.heap[b3]? = some (.cells #[.int .i64 n.dB,.int .i64 n.dK,.int .i64 n.di,.int .i64 n.dE,.int .i64 n.gK,.int .i64 n.gJ,.int .i64 n.wlo,.int .i64 n.whi] 40 (0,0))/\w'.heap[b4]? = some (.cells #[.int .i64 q.dB,.int .i64 q.dK,.int .i64 q.di,.int .i64 q.dE,.int .i64 q.wlo,.int .i64 q.whi] 56 (0,0))/\Kept (fun k=>k≠b3/\k≠b4) X w'
theorem ZE {bo bc bs b3 b4 f:Nat}(c:d_)(s:St)(o:bz.Op)(n:St)(q:bz.Out)(X:World)(hk:(o.kind=1/\f=130)\/(o.kind=2/\f=131)\/(o.kind=3/\f=132))
    (e0:X.heap[bc]? = some (.cells #[.int .i64 c.jm,.int .i64 c.jG,.int .i64 c.least,.int .i64 c.most,.int .i64 c.f0,.int .i64 c.f1,.int .i64 c.h0,.int .i64 c.h1,.int .i64 c.bu,.int .i64 c.mJ,.int .i64 c.phi] 96 (0,0))) (e1:X.heap[bs]? = some (.cells #[.int .i64 s.dB,.int .i64 s.dK,.int .i64 s.di,.int .i64 s.dE,.int .i64 s.gK,.int .i64 s.gJ,.int .i64 s.wlo,.int .i64 s.whi] 40 (0,0))) (e2:X.heap[bo]? = some (.cells #[.int .i64 o.kind,.int .i64 o.lg,.int .i64 o.ly,.int .i64 o.lt,.int .i64 o.lw,.int .i64 o.ay,.int .i64 o.lY,.int .i64 o.lX,.int .i64 o.wlo,.int .i64 o.whi] 43 (0,0)))
    (e3:X.heap[b3]? = some (.cells #[.int .i64 0,.int .i64 0,.int .i64 0,.int .i64 0,.int .i64 0,.int .i64 0,.int .i64 0,.int .i64 0] 40 (0,0))) (e4:X.heap[b4]? = some (.cells #[.int .i64 0,.int .i64 0,.int .i64 0,.int .i64 0,.int .i64 0,.int .i64 0] 56 (0,0))) (b3n:b3≠b4/\b3≠bo/\b3≠bc/\b3≠bs/\b4≠bo/\b4≠bc/\b4≠bs)
    (en:∀args w,(callFunc f args).run Tryz.prog w=.ok (.enter f args) w)
    (hcall:∀W',X.heap.size<=W'.heap.size->Calls Tryz.prog f #[gm c,jF s,Ll o] W' (fun e w'=>e=.returned (.tuple #[jF n,l9 q])/\Below W'.heap.size W' w')) :
    Calls Tryz.prog 75 #[.pointer (some ⟨bo,0,none⟩),.pointer (some ⟨bc,0,none⟩),.pointer (some ⟨bs,0,none⟩),.pointer (some ⟨b3,0,none⟩),.pointer (some ⟨b4,0,none⟩)] X (ah3 b3 b4 n q X):=by
 obtain⟨zo,ho,-⟩:=ah e2
 obtain⟨zc,hcc,-⟩:=ah e0
 obtain⟨zs,hss,-⟩:=ah e1
 have hmm:=b3n
 have hS0:Kept (fun k=>k=bo\/k=bc\/k=bs) X.drew X.drew:=.refl _ _
 have ko:∀w',Kept (fun k=>k=bo\/k=bc\/k=bs) X.drew w'->∀i v,(#[.int .i64 o.kind,.int .i64 o.lg,.int .i64 o.ly,.int .i64 o.lt,.int .i64 o.lw,.int .i64 o.ay,.int .i64 o.lY,.int .i64 o.lX,.int .i64 o.wlo,.int .i64 o.whi]:Array Value)[i]? = some v->w'.cell? ⟨bo,i,none⟩=some v:=fun w' h i v hv=>h.cell (.inl rfl) ((ho i).trans hv)
 have kc:∀w',Kept (fun k=>k=bo\/k=bc\/k=bs) X.drew w'->∀i v,(#[.int .i64 c.jm,.int .i64 c.jG,.int .i64 c.least,.int .i64 c.most,.int .i64 c.f0,.int .i64 c.f1,.int .i64 c.h0,.int .i64 c.h1,.int .i64 c.bu,.int .i64 c.mJ,.int .i64 c.phi]:Array Value)[i]? = some v->w'.cell? ⟨bc,i,none⟩=some v:=fun w' h i v hv=>h.cell (.inr (.inl rfl)) ((hcc i).trans hv)
 have ks:∀w',Kept (fun k=>k=bo\/k=bc\/k=bs) X.drew w'->∀i v,(#[.int .i64 s.dB,.int .i64 s.dK,.int .i64 s.di,.int .i64 s.dE,.int .i64 s.gK,.int .i64 s.gJ,.int .i64 s.wlo,.int .i64 s.whi]:Array Value)[i]? = some v->w'.cell? ⟨bs,i,none⟩=some v:=fun w' h i v hv=>h.cell (.inr (.inr rfl)) ((hss i).trans hv)
 go_enter Tryz.func75,Tryz.ntmps75
 go_wp2
 refine wp_region_held_drew (S:=Kept (fun k=>k=bo\/k=bc\/k=bs) X.drew) (by kernel_rfl) hS0 (fun hHeld=>?_)
 refine iT 1 (.pointer (some ⟨bo,0,none⟩)) hHeld ?_ ?_
 . intro w' hSw;go_simp;(try with_reducible rfl)
 try simp only[aI]
 refine iT 2 (.int .i64 o.kind) hHeld ?_ ?_
 . intro w' hSw;have c0:=ko w' hSw 0 _ rfl;go_simp;(try with_reducible rfl)
 try simp only[aI]
 refine iT 4 (gm c) hHeld ?_ ?_
 . intro w' hSw;have c0:=kc w' hSw 0 _ rfl;have c1:=kc w' hSw 1 _ rfl;have c2:=kc w' hSw 2 _ rfl;have c3:=kc w' hSw 3 _ rfl;have c4:=kc w' hSw 4 _ rfl;have c5:=kc w' hSw 5 _ rfl;have c6:=kc w' hSw 6 _ rfl;have c7:=kc w' hSw 7 _ rfl;have c8:=kc w' hSw 8 _ rfl;have c9:=kc w' hSw 9 _ rfl;have c10:=kc w' hSw 10 _ rfl;go_simp;(try with_reducible rfl)
 try simp only[aI]
 refine iT 5 (jF s) hHeld ?_ ?_
 . intro w' hSw;have c0:=ks w' hSw 0 _ rfl;have c1:=ks w' hSw 1 _ rfl;have c2:=ks w' hSw 2 _ rfl;have c3:=ks w' hSw 3 _ rfl;have c4:=ks w' hSw 4 _ rfl;have c5:=ks w' hSw 5 _ rfl;have c6:=ks w' hSw 6 _ rfl;have c7:=ks w' hSw 7 _ rfl;go_simp;(try with_reducible rfl)
 try simp only[aI]
 refine iT 6 (Ll o) hHeld ?_ ?_
 . intro w' hSw;have c0:=ko w' hSw 0 _ rfl;have c1:=ko w' hSw 1 _ rfl;have c2:=ko w' hSw 2 _ rfl;have c3:=ko w' hSw 3 _ rfl;have c4:=ko w' hSw 4 _ rfl;have c5:=ko w' hSw 5 _ rfl;have c6:=ko w' hSw 6 _ rfl;have c7:=ko w' hSw 7 _ rfl;have c8:=ko w' hSw 8 _ rfl;have c9:=ko w' hSw 9 _ rfl;go_simp;(try with_reducible rfl)
 try simp only[aI]
 refine wpAnyH_ready (rs:=[0]) (by kernel_rfl) (by simp) ?_
 refine AllReadyH.cons rfl (fun K hK=>?_) AllReadyH.nil
 go_simp
 go_at_call 76
 refine ax (Tu _) ?_
 rintro e W2 ⟨rfl,hmap,hB2⟩
 go_wp2_with (fail)
 refine hK.out _ _ (hHeld.trans (.all hB2)) (fun bG=>?_)
 clear hK K hHeld
 have hHeld:=bG
 clear bG
 try simp only[aI]
 have hlk:=Yh hmap hk
 clear hmap
 have as5:(Instr.lookup 194 (.map (some X.heap.size)) (.int .i64 o.kind) false).run Tryz.prog W2=.ok (.func (.func f) #[] #[]) W2:=hlk
 clear hlk
 refine wpAnyH_ready (rs:=[3]) (by kernel_rfl) (by simp) ?_
 refine AllReadyH.cons rfl (fun K hK=>?_) AllReadyH.nil
 go_simp
 refine hK.out _ _ hHeld (fun bG=>?_)
 clear hK K hHeld
 have hHeld:=bG
 clear bG
 try simp only[aI]
 refine wpAnyH_ready (rs:=[7]) (by kernel_rfl) (by simp) ?_
 refine AllReadyH.cons rfl (fun K hK=>?_) AllReadyH.nil
 go_simp
 refine ax (hcall W2 hB2.size) ?_
 rintro e W3 ⟨rfl,hB3⟩
 go_wp2_with (fail)
 refine hK.out _ _ (hHeld.trans (.all hB3)) (fun bG=>?_)
 clear hK K hHeld
 have hHeld:=bG
 clear bG
 try simp only[aI]
 refine iT 8 (.tuple #[jF n,l9 q]) hHeld ?_ ?_
 . intro w' hSw;go_simp;(try with_reducible rfl)
 try simp only[aI]
 refine iT 9 (jF n) hHeld ?_ ?_
 . intro w' hSw;go_simp;(try with_reducible rfl)
 try simp only[aI]
 refine iT 10 (l9 q) hHeld ?_ ?_
 . intro w' hSw;go_simp;(try with_reducible rfl)
 try simp only[aI]
 have hBx:Below X.heap.size X W3:=(Below.refl X.heap.size X).drew.trans (hB2.trans (hB3.mono hB2.size))
 have r3:=(hBx.block b3 (aF e3)).trans e3
 have r4:=(hBx.block b4 (aF e4)).trans e4
 have y3:=ah r3
 have y4:=ah r4
 have aj8:W3.cell? ⟨b3,0,none⟩=some (.int .i64 0):=y3.2.1 0
 have aij:W3.frozen? ⟨b3,0,none⟩=false:=y3.2.2 0
 have aj9:W3.cell? ⟨b3,1,none⟩=some (.int .i64 0):=y3.2.1 1
 have aik:W3.frozen? ⟨b3,1,none⟩=false:=y3.2.2 1
 have aj_:W3.cell? ⟨b3,2,none⟩=some (.int .i64 0):=y3.2.1 2
 have ail:W3.frozen? ⟨b3,2,none⟩=false:=y3.2.2 2
 have aj':W3.cell? ⟨b3,3,none⟩=some (.int .i64 0):=y3.2.1 3
 have aim:W3.frozen? ⟨b3,3,none⟩=false:=y3.2.2 3
 have aka:W3.cell? ⟨b3,4,none⟩=some (.int .i64 0):=y3.2.1 4
 have ain:W3.frozen? ⟨b3,4,none⟩=false:=y3.2.2 4
 have akb:W3.cell? ⟨b3,5,none⟩=some (.int .i64 0):=y3.2.1 5
 have aio:W3.frozen? ⟨b3,5,none⟩=false:=y3.2.2 5
 have akc:W3.cell? ⟨b3,6,none⟩=some (.int .i64 0):=y3.2.1 6
 have aip:W3.frozen? ⟨b3,6,none⟩=false:=y3.2.2 6
 have akd:W3.cell? ⟨b3,7,none⟩=some (.int .i64 0):=y3.2.1 7
 have aiq:W3.frozen? ⟨b3,7,none⟩=false:=y3.2.2 7
 have ake:W3.cell? ⟨b4,0,none⟩=some (.int .i64 0):=y4.2.1 0
 have air:W3.frozen? ⟨b4,0,none⟩=false:=y4.2.2 0
 have akf:W3.cell? ⟨b4,1,none⟩=some (.int .i64 0):=y4.2.1 1
 have ais:W3.frozen? ⟨b4,1,none⟩=false:=y4.2.2 1
 have akg:W3.cell? ⟨b4,2,none⟩=some (.int .i64 0):=y4.2.1 2
 have ait:W3.frozen? ⟨b4,2,none⟩=false:=y4.2.2 2
 have akh:W3.cell? ⟨b4,3,none⟩=some (.int .i64 0):=y4.2.1 3
 have aiu:W3.frozen? ⟨b4,3,none⟩=false:=y4.2.2 3
 have aki:W3.cell? ⟨b4,4,none⟩=some (.int .i64 0):=y4.2.1 4
 have aiv:W3.frozen? ⟨b4,4,none⟩=false:=y4.2.2 4
 have akj:W3.cell? ⟨b4,5,none⟩=some (.int .i64 0):=y4.2.1 5
 have aiw:W3.frozen? ⟨b4,5,none⟩=false:=y4.2.2 5
 have h34:b3≠b4:=b3n.1
 have h43:b4≠b3:=fun h=>b3n.1 h.symm
 refine wpAnyH_ready (rs:=[11]) (by kernel_rfl) (by simp) ?_
 refine AllReadyH.cons rfl (fun K hK=>?_) AllReadyH.nil
 go_simp
 refine hK.out _ _ ?_ (fun bG=>?_)
 . repeat' (first|(with_reducible exact hHeld)|refine Kept.setCell ?_ (.inl (by simp only;omega)) _)
 clear hK K hHeld
 have hHeld:=bG
 clear bG
 try simp only[aI]
 refine wpAnyH_ready (rs:=[12]) (by kernel_rfl) (by simp) ?_
 refine AllReadyH.cons rfl (fun K hK=>?_) AllReadyH.nil
 go_simp
 refine hK.out _ _ ?_ (fun bG=>?_)
 . repeat' (first|(with_reducible exact hHeld)|refine Kept.setCell ?_ (.inl (by simp only;omega)) _)
 clear hK K hHeld
 have hHeld:=bG
 clear bG
 try simp only[aI]
 refine wpAnyH_done (by kernel_rfl) ?_ _
 refine bodyPost_end (results_none rfl _ _ _) rfl ?_
 have hkk:Kept (fun k=>k≠b3/\k≠b4) X W3:=.all hBx
 have hK3:∀V:World,Kept (fun k=>k≠b3/\k≠b4) X V->∀(i:Nat) u,Kept (fun k=>k≠b3/\k≠b4) X (V.setCell ⟨b3,i,none⟩ u):=fun V h i u=>h.setCell (.inl (by simp only;omega)) u
 have hK4:∀V:World,Kept (fun k=>k≠b3/\k≠b4) X V->∀(i:Nat) u,Kept (fun k=>k≠b3/\k≠b4) X (V.setCell ⟨b4,i,none⟩ u):=fun V h i u=>h.setCell (.inl (by simp only;omega)) u
 have hfin:=hK4 _ (hK4 _ (hK4 _ (hK4 _ (hK4 _ (hK4 _ (hK3 _ (hK3 _ (hK3 _ (hK3 _ (hK3 _ (hK3 _ (hK3 _ (hK3 _ hkk 0 (.int .i64 n.dB)) 1 (.int .i64 n.dK)) 2 (.int .i64 n.di)) 3 (.int .i64 n.dE)) 4 (.int .i64 n.gK)) 5 (.int .i64 n.gJ)) 6 (.int .i64 n.wlo)) 7 (.int .i64 n.whi)) 0 (.int .i64 q.dB)) 1 (.int .i64 q.dK)) 2 (.int .i64 q.di)) 3 (.int .i64 q.dE)) 4 (.int .i64 q.wlo)) 5 (.int .i64 q.whi)
 exact⟨rfl,hfin.size,(gu _ _ _ _ _ _ h34).trans (mg r3 _ _ _ _ _ _ _ _),mf ((gy _ _ _ _ _ _ _ _ h43).trans r4) _ _ _ _ _ _,hfin⟩
theorem ZC {bo bc bs b3 b4 f:Nat}(c:d_)(s:St)(o:bz.Op)(X:World)(hk:(o.kind=1/\f=130)\/(o.kind=2/\f=131)\/(o.kind=3/\f=132))
    (e0:X.heap[bc]? = some (.cells #[.int .i64 c.jm,.int .i64 c.jG,.int .i64 c.least,.int .i64 c.most,.int .i64 c.f0,.int .i64 c.f1,.int .i64 c.h0,.int .i64 c.h1,.int .i64 c.bu,.int .i64 c.mJ,.int .i64 c.phi] 96 (0,0))) (e1:X.heap[bs]? = some (.cells #[.int .i64 s.dB,.int .i64 s.dK,.int .i64 s.di,.int .i64 s.dE,.int .i64 s.gK,.int .i64 s.gJ,.int .i64 s.wlo,.int .i64 s.whi] 40 (0,0))) (e2:X.heap[bo]? = some (.cells #[.int .i64 o.kind,.int .i64 o.lg,.int .i64 o.ly,.int .i64 o.lt,.int .i64 o.lw,.int .i64 o.ay,.int .i64 o.lY,.int .i64 o.lX,.int .i64 o.wlo,.int .i64 o.whi] 43 (0,0)))
    (e3:X.heap[b3]? = some (.cells #[.int .i64 0,.int .i64 0,.int .i64 0,.int .i64 0,.int .i64 0,.int .i64 0,.int .i64 0,.int .i64 0] 40 (0,0))) (e4:X.heap[b4]? = some (.cells #[.int .i64 0,.int .i64 0,.int .i64 0,.int .i64 0,.int .i64 0,.int .i64 0] 56 (0,0))) (b3n:b3≠b4/\b3≠bo/\b3≠bc/\b3≠bs/\b4≠bo/\b4≠bc/\b4≠bs)
    (en:∀args w,(callFunc f args).run Tryz.prog w=.ok (.enter f args) w)
    (hcall:∀W',X.heap.size<=W'.heap.size->Calls Tryz.prog f #[gm c,jF s,Ll o] W' (jI W')) :
    Calls Tryz.prog 75 #[.pointer (some ⟨bo,0,none⟩),.pointer (some ⟨bc,0,none⟩),.pointer (some ⟨bs,0,none⟩),.pointer (some ⟨b3,0,none⟩),.pointer (some ⟨b4,0,none⟩)] X (jI X):=by
 obtain⟨zo,ho,-⟩:=ah e2
 obtain⟨zc,hcc,-⟩:=ah e0
 obtain⟨zs,hss,-⟩:=ah e1
 have hmm:=b3n
 have hS0:Kept (fun k=>k=bo\/k=bc\/k=bs) X.drew X.drew:=.refl _ _
 have ko:∀w',Kept (fun k=>k=bo\/k=bc\/k=bs) X.drew w'->∀i v,(#[.int .i64 o.kind,.int .i64 o.lg,.int .i64 o.ly,.int .i64 o.lt,.int .i64 o.lw,.int .i64 o.ay,.int .i64 o.lY,.int .i64 o.lX,.int .i64 o.wlo,.int .i64 o.whi]:Array Value)[i]? = some v->w'.cell? ⟨bo,i,none⟩=some v:=fun w' h i v hv=>h.cell (.inl rfl) ((ho i).trans hv)
 have kc:∀w',Kept (fun k=>k=bo\/k=bc\/k=bs) X.drew w'->∀i v,(#[.int .i64 c.jm,.int .i64 c.jG,.int .i64 c.least,.int .i64 c.most,.int .i64 c.f0,.int .i64 c.f1,.int .i64 c.h0,.int .i64 c.h1,.int .i64 c.bu,.int .i64 c.mJ,.int .i64 c.phi]:Array Value)[i]? = some v->w'.cell? ⟨bc,i,none⟩=some v:=fun w' h i v hv=>h.cell (.inr (.inl rfl)) ((hcc i).trans hv)
 have ks:∀w',Kept (fun k=>k=bo\/k=bc\/k=bs) X.drew w'->∀i v,(#[.int .i64 s.dB,.int .i64 s.dK,.int .i64 s.di,.int .i64 s.dE,.int .i64 s.gK,.int .i64 s.gJ,.int .i64 s.wlo,.int .i64 s.whi]:Array Value)[i]? = some v->w'.cell? ⟨bs,i,none⟩=some v:=fun w' h i v hv=>h.cell (.inr (.inr rfl)) ((hss i).trans hv)
 go_enter Tryz.func75,Tryz.ntmps75
 go_wp2
 refine wp_region_held_drew (S:=Kept (fun k=>k=bo\/k=bc\/k=bs) X.drew) (by kernel_rfl) hS0 (fun hHeld=>?_)
 refine iT 1 (.pointer (some ⟨bo,0,none⟩)) hHeld ?_ ?_
 . intro w' hSw;go_simp;(try with_reducible rfl)
 try simp only[aI]
 refine iT 2 (.int .i64 o.kind) hHeld ?_ ?_
 . intro w' hSw;have c0:=ko w' hSw 0 _ rfl;go_simp;(try with_reducible rfl)
 try simp only[aI]
 refine iT 4 (gm c) hHeld ?_ ?_
 . intro w' hSw;have c0:=kc w' hSw 0 _ rfl;have c1:=kc w' hSw 1 _ rfl;have c2:=kc w' hSw 2 _ rfl;have c3:=kc w' hSw 3 _ rfl;have c4:=kc w' hSw 4 _ rfl;have c5:=kc w' hSw 5 _ rfl;have c6:=kc w' hSw 6 _ rfl;have c7:=kc w' hSw 7 _ rfl;have c8:=kc w' hSw 8 _ rfl;have c9:=kc w' hSw 9 _ rfl;have c10:=kc w' hSw 10 _ rfl;go_simp;(try with_reducible rfl)
 try simp only[aI]
 refine iT 5 (jF s) hHeld ?_ ?_
 . intro w' hSw;have c0:=ks w' hSw 0 _ rfl;have c1:=ks w' hSw 1 _ rfl;have c2:=ks w' hSw 2 _ rfl;have c3:=ks w' hSw 3 _ rfl;have c4:=ks w' hSw 4 _ rfl;have c5:=ks w' hSw 5 _ rfl;have c6:=ks w' hSw 6 _ rfl;have c7:=ks w' hSw 7 _ rfl;go_simp;(try with_reducible rfl)
 try simp only[aI]
 refine iT 6 (Ll o) hHeld ?_ ?_
 . intro w' hSw;have c0:=ko w' hSw 0 _ rfl;have c1:=ko w' hSw 1 _ rfl;have c2:=ko w' hSw 2 _ rfl;have c3:=ko w' hSw 3 _ rfl;have c4:=ko w' hSw 4 _ rfl;have c5:=ko w' hSw 5 _ rfl;have c6:=ko w' hSw 6 _ rfl;have c7:=ko w' hSw 7 _ rfl;have c8:=ko w' hSw 8 _ rfl;have c9:=ko w' hSw 9 _ rfl;go_simp;(try with_reducible rfl)
 try simp only[aI]
 refine wpAnyH_ready (rs:=[0]) (by kernel_rfl) (by simp) ?_
 refine AllReadyH.cons rfl (fun K hK=>?_) AllReadyH.nil
 go_simp
 go_at_call 76
 refine ax (Tu _) ?_
 rintro e W2 ⟨rfl,hmap,hB2⟩
 go_wp2_with (fail)
 refine hK.out _ _ (hHeld.trans (.all hB2)) (fun bG=>?_)
 clear hK K hHeld
 have hHeld:=bG
 clear bG
 try simp only[aI]
 have hlk:=Yh hmap hk
 clear hmap
 have as5:(Instr.lookup 194 (.map (some X.heap.size)) (.int .i64 o.kind) false).run Tryz.prog W2=.ok (.func (.func f) #[] #[]) W2:=hlk
 clear hlk
 refine wpAnyH_ready (rs:=[3]) (by kernel_rfl) (by simp) ?_
 refine AllReadyH.cons rfl (fun K hK=>?_) AllReadyH.nil
 go_simp
 refine hK.out _ _ hHeld (fun bG=>?_)
 clear hK K hHeld
 have hHeld:=bG
 clear bG
 try simp only[aI]
 refine wpAnyH_ready (rs:=[7]) (by kernel_rfl) (by simp) ?_
 refine AllReadyH.cons rfl (fun K hK=>?_) AllReadyH.nil
 go_simp
 refine ax (hcall W2 hB2.size) ?_
 rintro e W3 ⟨st,rfl,hB3⟩
 go_wp2_with (fail)
 exact⟨rfl,jI.mk ((Below.refl X.heap.size X).drew.trans (hB2.trans (hB3.mono hB2.size)))⟩
