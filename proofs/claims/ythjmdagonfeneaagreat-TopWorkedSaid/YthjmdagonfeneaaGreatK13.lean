/- Laws and walks: GKnd, GDon, GDs1. -/
import Derived.MapKept
import Derived.Maps.OwnOps
import Derived.Recover
import Derived.Defers
import Derived.Laws.Pointers
import Derived.Test.YthjmdagonfeneaaGreatK11
import Derived.Test.YthjmdagonfeneaaGreatK12
set_option maxRecDepth 100000
set_option maxHeartbeats 16000000
set_option linter.unusedVariables false
set_option linter.unusedSimpArgs false
namespace Go.Proofs.YthjmdagonfeneaaGreat.G
open Go.RowKit Go.Sd Go.MapKept Gas
theorem kind_key : Tryz.prog.underlying 81 = some (.int .i64) := by kernel_rfl
theorem run_upd {w : World} {r : Nat} {es : Array MapEntry} {clock : Nat} {k : Int} {v : Value} (h : w.heap[r]? = some (.map es clock)) (hn : Instr.findNow (.int .i64) (.int .i64 k) es.toList 0 = some none) :
    (Instr.mapUpdate 154 (.map (some r)) (.int .i64 k) v).run Tryz.prog w = .ok () (w.putObj r (.map (es.push ⟨.int .i64 k, v, clock⟩) (clock + 1))) := by
 have h1 := run_checkKey (P := Tryz.prog) (w := w) kind_key (k := .int .i64 k) (by simp [IsKey]) false 9999
 have h2 := run_findKey (P := Tryz.prog) (w := w) (a := none) kind_key hn
 simp [Instr.mapUpdate, run_underlying Tryz.underlying154, Sem.run_bind, getObj, setObj, Sem.run, h, Result.andThen, h1, h2, World.putObj]
abbrev kindEs : Array MapEntry := #[⟨.int .i64 1, .func (.func 119) #[] #[], 0⟩, ⟨.int .i64 2, .func (.func 120) #[] #[], 1⟩, ⟨.int .i64 3, .func (.func 121) #[] #[], 2⟩]
theorem progKinds (w : World) : Calls Tryz.prog 92 #[] w fun e w' => e = .returned (.map (some w.heap.size)) ∧ w'.heap[w.heap.size]? = some (.map kindEs 3) ∧ Below w.heap.size w w' := by
 have hmk : ∀ w, (Instr.makeMap 154 none).run Tryz.prog w = .ok (.map (some w.heap.size)) (w.alloc (.map #[] 0)) := fun w => by simp [Instr.makeMap, run_underlying Tryz.underlying154]
 obtain ⟨W0, hW0⟩ : ∃ W, w.alloc (.map #[] 0) = W := ⟨_, rfl⟩
 have e0 : W0.heap[w.heap.size]? = some (.map #[] 0) := by rw [← hW0]; exact World.alloc_heap_new w _
 have b0 : Below w.heap.size w W0 := by rw [← hW0]; exact (Below.refl _ _).alloc (Nat.le_refl _) _
 have z0 := (zqo e0)
 have u1 := run_upd (k := 1) (v := .func (.func 119) #[] #[]) e0 rfl
 obtain ⟨W1, hW1⟩ : ∃ W, W0.putObj w.heap.size (.map #[⟨.int .i64 1, .func (.func 119) #[] #[], 0⟩] 1) = W := ⟨_, rfl⟩
 have u1' : (Instr.mapUpdate 154 (.map (some w.heap.size)) (.int .i64 1) (.func (.func 119) #[] #[])).run Tryz.prog W0 = .ok () W1 := by rw [← hW1]; exact u1
 have e1 : W1.heap[w.heap.size]? = some (.map #[⟨.int .i64 1, .func (.func 119) #[] #[], 0⟩] 1) := by rw [← hW1]; exact World.putObj_heap_same z0
 have b1 : Below w.heap.size w W1 := by rw [← hW1]; exact below_putObj b0 (Nat.le_refl _) _
 have z1 := (zqo e1)
 have u2 := run_upd (k := 2) (v := .func (.func 120) #[] #[]) e1 rfl
 obtain ⟨W2, hW2⟩ : ∃ W, W1.putObj w.heap.size (.map #[⟨.int .i64 1, .func (.func 119) #[] #[], 0⟩, ⟨.int .i64 2, .func (.func 120) #[] #[], 1⟩] 2) = W := ⟨_, rfl⟩
 have u2' : (Instr.mapUpdate 154 (.map (some w.heap.size)) (.int .i64 2) (.func (.func 120) #[] #[])).run Tryz.prog W1 = .ok () W2 := by rw [← hW2]; exact u2
 have e2 : W2.heap[w.heap.size]? = some (.map #[⟨.int .i64 1, .func (.func 119) #[] #[], 0⟩, ⟨.int .i64 2, .func (.func 120) #[] #[], 1⟩] 2) := by rw [← hW2]; exact World.putObj_heap_same z1
 have b2 : Below w.heap.size w W2 := by rw [← hW2]; exact below_putObj b1 (Nat.le_refl _) _
 have z2 := (zqo e2)
 have u3 := run_upd (k := 3) (v := .func (.func 121) #[] #[]) e2 rfl
 obtain ⟨W3, hW3⟩ : ∃ W, W2.putObj w.heap.size (.map kindEs 3) = W := ⟨_, rfl⟩
 have u3' : (Instr.mapUpdate 154 (.map (some w.heap.size)) (.int .i64 3) (.func (.func 121) #[] #[])).run Tryz.prog W2 = .ok () W3 := by rw [← hW3]; exact u3
 have e3 : W3.heap[w.heap.size]? = some (.map kindEs 3) := by rw [← hW3]; exact World.putObj_heap_same z2
 have b3 : Below w.heap.size w W3 := by rw [← hW3]; exact below_putObj b2 (Nat.le_refl _) _
 replace e3 := Lib.hid e3
 clear u1 u2 u3 hW1 hW2 hW3 e0 e1 e2 z0 z1 z2 b0 b1 b2
 go_enter Tryz.func92, Tryz.ntmps92
 go_wp2
 go_ret
 exact ⟨rfl, e3.out, b3⟩
theorem run_look {w : World} {r : Nat} {k : Int} {f : Nat} (h : w.heap[r]? = some (.map kindEs 3)) (hk : (k = 1 ∧ f = 119) ∨ (k = 2 ∧ f = 120) ∨ (k = 3 ∧ f = 121)) :
    (Instr.lookup 154 (.map (some r)) (.int .i64 k) false).run Tryz.prog w = .ok (.func (.func f) #[] #[]) w := by
 have h1 := run_checkKey (P := Tryz.prog) (w := w) kind_key (k := .int .i64 k) (by simp [IsKey]) false 9999
 have h2 : ∃ i, (Instr.findKey 81 (.int .i64 k) kindEs.toList).run Tryz.prog w = .ok (some (i, .func (.func f) #[] #[])) w := by
  rcases hk with ⟨rfl, rfl⟩ | ⟨rfl, rfl⟩ | ⟨rfl, rfl⟩
  · exact ⟨0, run_findKey kind_key rfl⟩
  · exact ⟨1, run_findKey kind_key rfl⟩
  · exact ⟨2, run_findKey kind_key rfl⟩
 obtain ⟨i, h2⟩ := h2
 have h3 : kindEs.isEmpty = false := rfl
 simp only [kindEs] at h h1 h2 h3
 simp [Instr.lookup, run_underlying Tryz.underlying154, Sem.run_bind, getObj, Sem.run, h, Result.andThen, h1, h2, h3]
end Go.Proofs.YthjmdagonfeneaaGreat.G
set_option linter.unusedVariables false
set_option linter.unusedSimpArgs false
namespace Go.Proofs.YthjmdagonfeneaaGreat.G
open Go.RowKit Go.Sd Gas
abbrev gaveV (s : ByteArray) : Value := .iface 165 (.agg #[.string s])
theorem done_catch (b : Nat) (x : Bool) (s : ByteArray) (older : List PanicEntry) (w : World) (hc : w.cell? ⟨b, 0, none⟩ = some (.bool x)) (hz : w.frozen? ⟨b, 0, none⟩ = false) :
    CallsD Tryz.prog 106 #[.pointer (some ⟨b, 0, none⟩)] (.panicking ({ v := gaveV s, recovered := false } :: older)) w fun e u' w' =>
     e = .returned (.tuple #[]) ∧ u' = .panicking ({ v := gaveV s, recovered := true } :: older) ∧ w' = (w.setCell ⟨b, 0, none⟩ (.bool false)).alloc (.cells #[.string s] 165) := by
 have hta : ∀ w, (Instr.typeAssert (.iface 165 (.agg #[.string s])) 20 165 true).run Tryz.prog w = .ok (.tuple #[.agg #[.string s], .bool true]) w := fun w => by kernel_rfl
 have hb := World.block_lt_of_cell? w ⟨b, 0, none⟩ hc
 simp only at hb
 have hne : ¬ b = w.heap.size := by omega
 refine callsD_of_wpS Tryz.func106 rfl fun c₀ cs hu => ?_
 apply wpS_seq
 apply wpS_region
 simp [wpOpsS, go_sem, recoverD, hu, Tryz.ntmps106, Exit.thenS]
 refine wpS_of_wp ?_
 go_wp2
 simp [bodyPostS, results, Tryz.results106, go_sem]
theorem done_idle (p : Addr) (w : World) :
    CallsD Tryz.prog 106 #[.pointer (some p)] .returning w fun e u' w' => e = .returned (.tuple #[]) ∧ u' = .returning ∧ w' = w := by
 refine callsD_of_wpS Tryz.func106 rfl fun c₀ cs hu => ?_
 apply wpS_seq
 apply wpS_region
 simp [wpOpsS, go_sem, recoverD, hu, Tryz.ntmps106, Exit.thenS]
 refine wpS_of_wp ?_
 go_wp2
 cases c₀
 simp_all [bodyPostS, results, Tryz.results106, go_sem]
def DoneY (n : Nat) (R : World → Prop) (e : Ending) (w'' : World) : Prop := e = .returned (.bool true) ∧ ∃ w', R w' ∧ w'' = w'.setCell ⟨n, 0, none⟩ (.bool true)
theorem progDoneY {fn : Nat} {cap : Array Value} (w W : World) (R : World → Prop) (hW : w.alloc (.cells #[.bool false] 4) = W) (en : ∀ args w, (callFunc fn args).run Tryz.prog w = .ok (.enter fn args) w)
    (hcall : Calls Tryz.prog fn cap W fun e w' => e = .returned (.tuple #[]) ∧ w'.heap[w.heap.size]? = W.heap[w.heap.size]? ∧ R w') :
    Calls Tryz.prog 79 #[.func (.func fn) #[] cap] w (DoneY w.heap.size R) := by
 have hmf : ∀ (fn : Fn) (first cap : Array Value) (w : World), (Instr.makeFunc fn first cap).run Tryz.prog w = .ok (.func fn first cap) w := fun _ _ _ _ => rfl
 obtain ⟨e0, b0, s0⟩ := boxed hW
 clear s0 b0
 have hcall2 := Lib.hid hcall
 replace e0 := Lib.hid e0
 clear hcall
 go_enter_defers Tryz.func79, Tryz.ntmps79
 go_wp2
 refine Calls.mono hcall2.out ?_
 rintro e w' ⟨rfl, hb, hR⟩
 obtain ⟨z0, d0, f0⟩ := row_cells (hb.trans e0.out)
 have c0 := d0 0
 have c1 := f0 0
 simp only [List.getElem?_toArray, List.getElem?_cons_zero] at c0
 clear d0 f0 hb hcall2
 replace hR := Lib.hid hR
 go_wp2
 refine leaves_cons (f := 106) (args := #[.pointer (some ⟨w.heap.size, 0, none⟩)]) (by simp) (by simp [go_sem]) ?_
 refine (done_idle ⟨w.heap.size, 0, none⟩ _).mono ?_
 rintro e u' w'' ⟨rfl, rfl, rfl⟩
 have n2 : (w'.setCell ⟨w.heap.size, 0, none⟩ (.bool true)).cell? ⟨w.heap.size, 0, none⟩ = some (.bool true) := World.cell?_setCell_same' _ _ _ (by rw [c0]; rfl)
 simp [Leaves, settle, results, Tryz.results79, go_sem, n2]
 exact ⟨rfl, w', hR.out, rfl⟩
theorem progDoneN {fn : Nat} {cap : Array Value} (w W : World) (hW : w.alloc (.cells #[.bool false] 4) = W) (en : ∀ args w, (callFunc fn args).run Tryz.prog w = .ok (.enter fn args) w)
    (hcall : Calls Tryz.prog fn cap W (GaveUp W)) :
    Calls Tryz.prog 79 #[.func (.func fn) #[] cap] w fun e w'' => e = .returned (.bool false) ∧ Below w.heap.size w w'' := by
 have hmf : ∀ (fn : Fn) (first cap : Array Value) (w : World), (Instr.makeFunc fn first cap).run Tryz.prog w = .ok (.func fn first cap) w := fun _ _ _ _ => rfl
 obtain ⟨e0, b0, s0⟩ := boxed hW
 have hle : w.heap.size ≤ W.heap.size := b0.size
 clear s0
 have hcall2 := Lib.hid hcall
 replace e0 := Lib.hid e0
 clear hcall
 go_enter_defers Tryz.func79, Tryz.ntmps79
 go_wp2
 refine Calls.mono hcall2.out ?_
 rintro e w' ⟨str, rfl, hB⟩
 obtain ⟨z0, d0, f0⟩ := row_cells ((hB.block _ (zqo e0.out)).trans e0.out)
 have c0 := d0 0
 have c1 := f0 0
 simp only [List.getElem?_toArray, List.getElem?_cons_zero] at c0
 refine leaves_cons (f := 106) (args := #[.pointer (some ⟨w.heap.size, 0, none⟩)]) (by simp) (by simp [go_sem]) ?_
 refine (done_catch w.heap.size false str [] _ c0 c1).mono ?_
 rintro e u' w'' ⟨rfl, rfl, rfl⟩
 have n2 : ((w'.setCell ⟨w.heap.size, 0, none⟩ (.bool false)).alloc (.cells #[.string str] 165)).cell? ⟨w.heap.size, 0, none⟩ = some (.bool false) := kept_cell ((Below.refl _ _).alloc (Nat.le_refl _) _) (World.cell?_setCell_same' _ _ _ (by rw [c0]; rfl))
 simp [Leaves, settle, results, Tryz.results79, go_sem, n2]
 have hbs := (b0.trans (hB.mono hle)).setCell (p := ⟨w.heap.size, 0, none⟩) (Nat.le_refl _) (.bool false)
 exact hbs.alloc hbs.size _
end Go.Proofs.YthjmdagonfeneaaGreat.G
namespace Go.Proofs.YthjmdagonfeneaaGreat.G
open Go.RowKit Go.Sd Gas
abbrev upV (s : ByteArray) : List PanicEntry := [{ v := .iface 165 (.agg #[.string s]), recovered := false }]
end Go.Proofs.YthjmdagonfeneaaGreat.G
set_option linter.unusedVariables false
set_option linter.unusedSimpArgs false
namespace Go.Proofs.YthjmdagonfeneaaGreat.G
open Go.RowKit Go.Sd Gas
def DidPost (b3 b4 : Nat) (n : St) (q : Gas.Out) (X : World) (e : Ending) (w' : World) : Prop := e = .returned (.tuple #[]) ∧ X.heap.size ≤ w'.heap.size ∧ w'.heap[b3]? = some (.cells #[.int .i64 n.glo, .int .i64 n.ghi, .int .i64 n.ylo, .int .i64 n.yhi, .int .i64 n.tlo, .int .i64 n.thi, .int .i64 n.wlo, .int .i64 n.whi] 33 (0, 0)) ∧ w'.heap[b4]? = some (.cells #[.int .i64 q.glo, .int .i64 q.ghi, .int .i64 q.ylo, .int .i64 q.yhi, .int .i64 q.wlo, .int .i64 q.whi] 76 (0, 0)) ∧ Kept (fun k => k ≠ b3 ∧ k ≠ b4) X w'
theorem progDoes1Y {bo bc bs b3 b4 f : Nat} (c : Cav) (s : St) (o : Gas.Op) (n : St) (q : Gas.Out) (X : World) (hk : (o.kind = 1 ∧ f = 119) ∨ (o.kind = 2 ∧ f = 120) ∨ (o.kind = 3 ∧ f = 121))
    (e0 : X.heap[bc]? = some (.cells #[.int .i64 c.vlo, .int .i64 c.vhi, .int .i64 c.least, .int .i64 c.most, .int .i64 c.f0, .int .i64 c.f1, .int .i64 c.h0, .int .i64 c.h1, .int .i64 c.rock, .int .i64 c.plo, .int .i64 c.phi] 89 (0, 0))) (e1 : X.heap[bs]? = some (.cells #[.int .i64 s.glo, .int .i64 s.ghi, .int .i64 s.ylo, .int .i64 s.yhi, .int .i64 s.tlo, .int .i64 s.thi, .int .i64 s.wlo, .int .i64 s.whi] 33 (0, 0))) (e2 : X.heap[bo]? = some (.cells #[.int .i64 o.kind, .int .i64 o.lg, .int .i64 o.ly, .int .i64 o.lt, .int .i64 o.lw, .int .i64 o.moles, .int .i64 o.slo, .int .i64 o.shi, .int .i64 o.wlo, .int .i64 o.whi] 83 (0, 0)))
    (e3 : X.heap[b3]? = some (.cells #[.int .i64 0, .int .i64 0, .int .i64 0, .int .i64 0, .int .i64 0, .int .i64 0, .int .i64 0, .int .i64 0] 33 (0, 0))) (e4 : X.heap[b4]? = some (.cells #[.int .i64 0, .int .i64 0, .int .i64 0, .int .i64 0, .int .i64 0, .int .i64 0] 76 (0, 0))) (b3n : b3 ≠ b4 ∧ b3 ≠ bo ∧ b3 ≠ bc ∧ b3 ≠ bs ∧ b4 ≠ bo ∧ b4 ≠ bc ∧ b4 ≠ bs)
    (en : ∀ args w, (callFunc f args).run Tryz.prog w = .ok (.enter f args) w)
    (hcall : ∀ W', X.heap.size ≤ W'.heap.size → Calls Tryz.prog f #[cavV c, stV s, opV o] W' (fun e w' => e = .returned (.tuple #[stV n, outV q]) ∧ Below W'.heap.size W' w')) :
    Calls Tryz.prog 91 #[.pointer (some ⟨bo, 0, none⟩), .pointer (some ⟨bc, 0, none⟩), .pointer (some ⟨bs, 0, none⟩), .pointer (some ⟨b3, 0, none⟩), .pointer (some ⟨b4, 0, none⟩)] X (DidPost b3 b4 n q X) := by
 obtain ⟨zo, ho, -⟩ := row_cells e2
 obtain ⟨zc, hcc, -⟩ := row_cells e0
 obtain ⟨zs, hss, -⟩ := row_cells e1
 have hmm := b3n
 have hS0 : Kept (fun k => k = bo ∨ k = bc ∨ k = bs) X.drew X.drew := .refl _ _
 have ko : ∀ w', Kept (fun k => k = bo ∨ k = bc ∨ k = bs) X.drew w' → ∀ i v, (#[.int .i64 o.kind, .int .i64 o.lg, .int .i64 o.ly, .int .i64 o.lt, .int .i64 o.lw, .int .i64 o.moles, .int .i64 o.slo, .int .i64 o.shi, .int .i64 o.wlo, .int .i64 o.whi] : Array Value)[i]? = some v → w'.cell? ⟨bo, i, none⟩ = some v := fun w' h i v hv => h.cell (.inl rfl) ((ho i).trans hv)
 have kc : ∀ w', Kept (fun k => k = bo ∨ k = bc ∨ k = bs) X.drew w' → ∀ i v, (#[.int .i64 c.vlo, .int .i64 c.vhi, .int .i64 c.least, .int .i64 c.most, .int .i64 c.f0, .int .i64 c.f1, .int .i64 c.h0, .int .i64 c.h1, .int .i64 c.rock, .int .i64 c.plo, .int .i64 c.phi] : Array Value)[i]? = some v → w'.cell? ⟨bc, i, none⟩ = some v := fun w' h i v hv => h.cell (.inr (.inl rfl)) ((hcc i).trans hv)
 have ks : ∀ w', Kept (fun k => k = bo ∨ k = bc ∨ k = bs) X.drew w' → ∀ i v, (#[.int .i64 s.glo, .int .i64 s.ghi, .int .i64 s.ylo, .int .i64 s.yhi, .int .i64 s.tlo, .int .i64 s.thi, .int .i64 s.wlo, .int .i64 s.whi] : Array Value)[i]? = some v → w'.cell? ⟨bs, i, none⟩ = some v := fun w' h i v hv => h.cell (.inr (.inr rfl)) ((hss i).trans hv)
 go_enter Tryz.func91, Tryz.ntmps91
 go_wp2
 refine wp_region_held_drew (S := Kept (fun k => k = bo ∨ k = bc ∨ k = bs) X.drew) (by kernel_rfl) hS0 (fun hHeld => ?_)
 refine wpAnyH_take (i := 1) (v := .pointer (some ⟨bo, 0, none⟩)) rfl (by kernel_rfl) (by kernel_rfl) (by kernel_rfl) (fun _ _ _ h => h) (Or.inl ⟨by rfl, ?_⟩) hHeld ?_
 · intro w' hSw; go_simp; (try with_reducible rfl)
 try simp only [Act.put, List.setIfInBounds_toArray, List.set_cons_zero, List.set_cons_succ]
 refine wpAnyH_take (i := 2) (v := .int .i64 o.kind) rfl (by kernel_rfl) (by kernel_rfl) (by kernel_rfl) (fun _ _ _ h => h) (Or.inl ⟨by rfl, ?_⟩) hHeld ?_
 · intro w' hSw; have c0 := ko w' hSw 0 _ rfl; go_simp; (try with_reducible rfl)
 try simp only [Act.put, List.setIfInBounds_toArray, List.set_cons_zero, List.set_cons_succ]
 refine wpAnyH_take (i := 4) (v := cavV c) rfl (by kernel_rfl) (by kernel_rfl) (by kernel_rfl) (fun _ _ _ h => h) (Or.inl ⟨by rfl, ?_⟩) hHeld ?_
 · intro w' hSw; have c0 := kc w' hSw 0 _ rfl; have c1 := kc w' hSw 1 _ rfl; have c2 := kc w' hSw 2 _ rfl; have c3 := kc w' hSw 3 _ rfl; have c4 := kc w' hSw 4 _ rfl; have c5 := kc w' hSw 5 _ rfl; have c6 := kc w' hSw 6 _ rfl; have c7 := kc w' hSw 7 _ rfl; have c8 := kc w' hSw 8 _ rfl; have c9 := kc w' hSw 9 _ rfl; have c10 := kc w' hSw 10 _ rfl; go_simp; (try with_reducible rfl)
 try simp only [Act.put, List.setIfInBounds_toArray, List.set_cons_zero, List.set_cons_succ]
 refine wpAnyH_take (i := 5) (v := stV s) rfl (by kernel_rfl) (by kernel_rfl) (by kernel_rfl) (fun _ _ _ h => h) (Or.inl ⟨by rfl, ?_⟩) hHeld ?_
 · intro w' hSw; have c0 := ks w' hSw 0 _ rfl; have c1 := ks w' hSw 1 _ rfl; have c2 := ks w' hSw 2 _ rfl; have c3 := ks w' hSw 3 _ rfl; have c4 := ks w' hSw 4 _ rfl; have c5 := ks w' hSw 5 _ rfl; have c6 := ks w' hSw 6 _ rfl; have c7 := ks w' hSw 7 _ rfl; go_simp; (try with_reducible rfl)
 try simp only [Act.put, List.setIfInBounds_toArray, List.set_cons_zero, List.set_cons_succ]
 refine wpAnyH_take (i := 6) (v := opV o) rfl (by kernel_rfl) (by kernel_rfl) (by kernel_rfl) (fun _ _ _ h => h) (Or.inl ⟨by rfl, ?_⟩) hHeld ?_
 · intro w' hSw; have c0 := ko w' hSw 0 _ rfl; have c1 := ko w' hSw 1 _ rfl; have c2 := ko w' hSw 2 _ rfl; have c3 := ko w' hSw 3 _ rfl; have c4 := ko w' hSw 4 _ rfl; have c5 := ko w' hSw 5 _ rfl; have c6 := ko w' hSw 6 _ rfl; have c7 := ko w' hSw 7 _ rfl; have c8 := ko w' hSw 8 _ rfl; have c9 := ko w' hSw 9 _ rfl; go_simp; (try with_reducible rfl)
 try simp only [Act.put, List.setIfInBounds_toArray, List.set_cons_zero, List.set_cons_succ]
 refine wpAnyH_ready (rs := [0]) (by kernel_rfl) (by simp) ?_
 refine AllReadyH.cons rfl (fun K hK => ?_) AllReadyH.nil
 go_simp
 go_at_call 92
 refine Calls.mono (progKinds _) ?_
 rintro e W2 ⟨rfl, hmap, hB2⟩
 go_wp2_with (fail)
 refine hK.out _ _ (hHeld.trans (.all hB2)) (fun hNow => ?_)
 clear hK K hHeld
 have hHeld := hNow
 clear hNow
 try simp only [Act.put, List.setIfInBounds_toArray, List.set_cons_zero, List.set_cons_succ]
 have hlk := run_look hmap hk
 clear hmap
 have hlk' : (Instr.lookup 154 (.map (some X.heap.size)) (.int .i64 o.kind) false).run Tryz.prog W2 = .ok (.func (.func f) #[] #[]) W2 := hlk
 clear hlk
 refine wpAnyH_ready (rs := [3]) (by kernel_rfl) (by simp) ?_
 refine AllReadyH.cons rfl (fun K hK => ?_) AllReadyH.nil
 go_simp
 refine hK.out _ _ hHeld (fun hNow => ?_)
 clear hK K hHeld
 have hHeld := hNow
 clear hNow
 try simp only [Act.put, List.setIfInBounds_toArray, List.set_cons_zero, List.set_cons_succ]
 refine wpAnyH_ready (rs := [7]) (by kernel_rfl) (by simp) ?_
 refine AllReadyH.cons rfl (fun K hK => ?_) AllReadyH.nil
 go_simp
 refine Calls.mono (hcall W2 hB2.size) ?_
 rintro e W3 ⟨rfl, hB3⟩
 go_wp2_with (fail)
 refine hK.out _ _ (hHeld.trans (.all hB3)) (fun hNow => ?_)
 clear hK K hHeld
 have hHeld := hNow
 clear hNow
 try simp only [Act.put, List.setIfInBounds_toArray, List.set_cons_zero, List.set_cons_succ]
 refine wpAnyH_take (i := 8) (v := .tuple #[stV n, outV q]) rfl (by kernel_rfl) (by kernel_rfl) (by kernel_rfl) (fun _ _ _ h => h) (Or.inl ⟨by rfl, ?_⟩) hHeld ?_
 · intro w' hSw; go_simp; (try with_reducible rfl)
 try simp only [Act.put, List.setIfInBounds_toArray, List.set_cons_zero, List.set_cons_succ]
 refine wpAnyH_take (i := 9) (v := stV n) rfl (by kernel_rfl) (by kernel_rfl) (by kernel_rfl) (fun _ _ _ h => h) (Or.inl ⟨by rfl, ?_⟩) hHeld ?_
 · intro w' hSw; go_simp; (try with_reducible rfl)
 try simp only [Act.put, List.setIfInBounds_toArray, List.set_cons_zero, List.set_cons_succ]
 refine wpAnyH_take (i := 10) (v := outV q) rfl (by kernel_rfl) (by kernel_rfl) (by kernel_rfl) (fun _ _ _ h => h) (Or.inl ⟨by rfl, ?_⟩) hHeld ?_
 · intro w' hSw; go_simp; (try with_reducible rfl)
 try simp only [Act.put, List.setIfInBounds_toArray, List.set_cons_zero, List.set_cons_succ]
 have hBx : Below X.heap.size X W3 := (Below.refl X.heap.size X).drew.trans (hB2.trans (hB3.mono hB2.size))
 have r3 := (hBx.block b3 (zqo e3)).trans e3
 have r4 := (hBx.block b4 (zqo e4)).trans e4
 have y3 := row_cells r3
 have y4 := row_cells r4
 have q3_0 : W3.cell? ⟨b3, 0, none⟩ = some (.int .i64 0) := y3.2.1 0
 have f3_0 : W3.frozen? ⟨b3, 0, none⟩ = false := y3.2.2 0
 have q3_1 : W3.cell? ⟨b3, 1, none⟩ = some (.int .i64 0) := y3.2.1 1
 have f3_1 : W3.frozen? ⟨b3, 1, none⟩ = false := y3.2.2 1
 have q3_2 : W3.cell? ⟨b3, 2, none⟩ = some (.int .i64 0) := y3.2.1 2
 have f3_2 : W3.frozen? ⟨b3, 2, none⟩ = false := y3.2.2 2
 have q3_3 : W3.cell? ⟨b3, 3, none⟩ = some (.int .i64 0) := y3.2.1 3
 have f3_3 : W3.frozen? ⟨b3, 3, none⟩ = false := y3.2.2 3
 have q3_4 : W3.cell? ⟨b3, 4, none⟩ = some (.int .i64 0) := y3.2.1 4
 have f3_4 : W3.frozen? ⟨b3, 4, none⟩ = false := y3.2.2 4
 have q3_5 : W3.cell? ⟨b3, 5, none⟩ = some (.int .i64 0) := y3.2.1 5
 have f3_5 : W3.frozen? ⟨b3, 5, none⟩ = false := y3.2.2 5
 have q3_6 : W3.cell? ⟨b3, 6, none⟩ = some (.int .i64 0) := y3.2.1 6
 have f3_6 : W3.frozen? ⟨b3, 6, none⟩ = false := y3.2.2 6
 have q3_7 : W3.cell? ⟨b3, 7, none⟩ = some (.int .i64 0) := y3.2.1 7
 have f3_7 : W3.frozen? ⟨b3, 7, none⟩ = false := y3.2.2 7
 have q4_0 : W3.cell? ⟨b4, 0, none⟩ = some (.int .i64 0) := y4.2.1 0
 have f4_0 : W3.frozen? ⟨b4, 0, none⟩ = false := y4.2.2 0
 have q4_1 : W3.cell? ⟨b4, 1, none⟩ = some (.int .i64 0) := y4.2.1 1
 have f4_1 : W3.frozen? ⟨b4, 1, none⟩ = false := y4.2.2 1
 have q4_2 : W3.cell? ⟨b4, 2, none⟩ = some (.int .i64 0) := y4.2.1 2
 have f4_2 : W3.frozen? ⟨b4, 2, none⟩ = false := y4.2.2 2
 have q4_3 : W3.cell? ⟨b4, 3, none⟩ = some (.int .i64 0) := y4.2.1 3
 have f4_3 : W3.frozen? ⟨b4, 3, none⟩ = false := y4.2.2 3
 have q4_4 : W3.cell? ⟨b4, 4, none⟩ = some (.int .i64 0) := y4.2.1 4
 have f4_4 : W3.frozen? ⟨b4, 4, none⟩ = false := y4.2.2 4
 have q4_5 : W3.cell? ⟨b4, 5, none⟩ = some (.int .i64 0) := y4.2.1 5
 have f4_5 : W3.frozen? ⟨b4, 5, none⟩ = false := y4.2.2 5
 have h34 : b3 ≠ b4 := b3n.1
 have h43 : b4 ≠ b3 := fun h => b3n.1 h.symm
 refine wpAnyH_ready (rs := [11]) (by kernel_rfl) (by simp) ?_
 refine AllReadyH.cons rfl (fun K hK => ?_) AllReadyH.nil
 go_simp
 refine hK.out _ _ ?_ (fun hNow => ?_)
 · repeat' (first | (with_reducible exact hHeld) | refine Kept.setCell ?_ (.inl (by simp only; omega)) _)
 clear hK K hHeld
 have hHeld := hNow
 clear hNow
 try simp only [Act.put, List.setIfInBounds_toArray, List.set_cons_zero, List.set_cons_succ]
 refine wpAnyH_ready (rs := [12]) (by kernel_rfl) (by simp) ?_
 refine AllReadyH.cons rfl (fun K hK => ?_) AllReadyH.nil
 go_simp
 refine hK.out _ _ ?_ (fun hNow => ?_)
 · repeat' (first | (with_reducible exact hHeld) | refine Kept.setCell ?_ (.inl (by simp only; omega)) _)
 clear hK K hHeld
 have hHeld := hNow
 clear hNow
 try simp only [Act.put, List.setIfInBounds_toArray, List.set_cons_zero, List.set_cons_succ]
 refine wpAnyH_done (by kernel_rfl) ?_ _
 refine bodyPost_end (results_none rfl _ _ _) rfl ?_
 have hkk : Kept (fun k => k ≠ b3 ∧ k ≠ b4) X W3 := .all hBx
 have hK3 : ∀ V : World, Kept (fun k => k ≠ b3 ∧ k ≠ b4) X V → ∀ (i : Nat) u, Kept (fun k => k ≠ b3 ∧ k ≠ b4) X (V.setCell ⟨b3, i, none⟩ u) := fun V h i u => h.setCell (.inl (by simp only; omega)) u
 have hK4 : ∀ V : World, Kept (fun k => k ≠ b3 ∧ k ≠ b4) X V → ∀ (i : Nat) u, Kept (fun k => k ≠ b3 ∧ k ≠ b4) X (V.setCell ⟨b4, i, none⟩ u) := fun V h i u => h.setCell (.inl (by simp only; omega)) u
 have hfin := hK4 _ (hK4 _ (hK4 _ (hK4 _ (hK4 _ (hK4 _ (hK3 _ (hK3 _ (hK3 _ (hK3 _ (hK3 _ (hK3 _ (hK3 _ (hK3 _ hkk 0 (.int .i64 n.glo)) 1 (.int .i64 n.ghi)) 2 (.int .i64 n.ylo)) 3 (.int .i64 n.yhi)) 4 (.int .i64 n.tlo)) 5 (.int .i64 n.thi)) 6 (.int .i64 n.wlo)) 7 (.int .i64 n.whi)) 0 (.int .i64 q.glo)) 1 (.int .i64 q.ghi)) 2 (.int .i64 q.ylo)) 3 (.int .i64 q.yhi)) 4 (.int .i64 q.wlo)) 5 (.int .i64 q.whi)
 exact ⟨rfl, hfin.size, (set_other6 _ _ _ _ _ _ h34).trans (set_cells8 r3 _ _ _ _ _ _ _ _), set_cells6 ((set_other8 _ _ _ _ _ _ _ _ h43).trans r4) _ _ _ _ _ _, hfin⟩
theorem progDoes1N {bo bc bs b3 b4 f : Nat} (c : Cav) (s : St) (o : Gas.Op) (X : World) (hk : (o.kind = 1 ∧ f = 119) ∨ (o.kind = 2 ∧ f = 120) ∨ (o.kind = 3 ∧ f = 121))
    (e0 : X.heap[bc]? = some (.cells #[.int .i64 c.vlo, .int .i64 c.vhi, .int .i64 c.least, .int .i64 c.most, .int .i64 c.f0, .int .i64 c.f1, .int .i64 c.h0, .int .i64 c.h1, .int .i64 c.rock, .int .i64 c.plo, .int .i64 c.phi] 89 (0, 0))) (e1 : X.heap[bs]? = some (.cells #[.int .i64 s.glo, .int .i64 s.ghi, .int .i64 s.ylo, .int .i64 s.yhi, .int .i64 s.tlo, .int .i64 s.thi, .int .i64 s.wlo, .int .i64 s.whi] 33 (0, 0))) (e2 : X.heap[bo]? = some (.cells #[.int .i64 o.kind, .int .i64 o.lg, .int .i64 o.ly, .int .i64 o.lt, .int .i64 o.lw, .int .i64 o.moles, .int .i64 o.slo, .int .i64 o.shi, .int .i64 o.wlo, .int .i64 o.whi] 83 (0, 0)))
    (e3 : X.heap[b3]? = some (.cells #[.int .i64 0, .int .i64 0, .int .i64 0, .int .i64 0, .int .i64 0, .int .i64 0, .int .i64 0, .int .i64 0] 33 (0, 0))) (e4 : X.heap[b4]? = some (.cells #[.int .i64 0, .int .i64 0, .int .i64 0, .int .i64 0, .int .i64 0, .int .i64 0] 76 (0, 0))) (b3n : b3 ≠ b4 ∧ b3 ≠ bo ∧ b3 ≠ bc ∧ b3 ≠ bs ∧ b4 ≠ bo ∧ b4 ≠ bc ∧ b4 ≠ bs)
    (en : ∀ args w, (callFunc f args).run Tryz.prog w = .ok (.enter f args) w)
    (hcall : ∀ W', X.heap.size ≤ W'.heap.size → Calls Tryz.prog f #[cavV c, stV s, opV o] W' (GaveUp W')) :
    Calls Tryz.prog 91 #[.pointer (some ⟨bo, 0, none⟩), .pointer (some ⟨bc, 0, none⟩), .pointer (some ⟨bs, 0, none⟩), .pointer (some ⟨b3, 0, none⟩), .pointer (some ⟨b4, 0, none⟩)] X (GaveUp X) := by
 obtain ⟨zo, ho, -⟩ := row_cells e2
 obtain ⟨zc, hcc, -⟩ := row_cells e0
 obtain ⟨zs, hss, -⟩ := row_cells e1
 have hmm := b3n
 have hS0 : Kept (fun k => k = bo ∨ k = bc ∨ k = bs) X.drew X.drew := .refl _ _
 have ko : ∀ w', Kept (fun k => k = bo ∨ k = bc ∨ k = bs) X.drew w' → ∀ i v, (#[.int .i64 o.kind, .int .i64 o.lg, .int .i64 o.ly, .int .i64 o.lt, .int .i64 o.lw, .int .i64 o.moles, .int .i64 o.slo, .int .i64 o.shi, .int .i64 o.wlo, .int .i64 o.whi] : Array Value)[i]? = some v → w'.cell? ⟨bo, i, none⟩ = some v := fun w' h i v hv => h.cell (.inl rfl) ((ho i).trans hv)
 have kc : ∀ w', Kept (fun k => k = bo ∨ k = bc ∨ k = bs) X.drew w' → ∀ i v, (#[.int .i64 c.vlo, .int .i64 c.vhi, .int .i64 c.least, .int .i64 c.most, .int .i64 c.f0, .int .i64 c.f1, .int .i64 c.h0, .int .i64 c.h1, .int .i64 c.rock, .int .i64 c.plo, .int .i64 c.phi] : Array Value)[i]? = some v → w'.cell? ⟨bc, i, none⟩ = some v := fun w' h i v hv => h.cell (.inr (.inl rfl)) ((hcc i).trans hv)
 have ks : ∀ w', Kept (fun k => k = bo ∨ k = bc ∨ k = bs) X.drew w' → ∀ i v, (#[.int .i64 s.glo, .int .i64 s.ghi, .int .i64 s.ylo, .int .i64 s.yhi, .int .i64 s.tlo, .int .i64 s.thi, .int .i64 s.wlo, .int .i64 s.whi] : Array Value)[i]? = some v → w'.cell? ⟨bs, i, none⟩ = some v := fun w' h i v hv => h.cell (.inr (.inr rfl)) ((hss i).trans hv)
 go_enter Tryz.func91, Tryz.ntmps91
 go_wp2
 refine wp_region_held_drew (S := Kept (fun k => k = bo ∨ k = bc ∨ k = bs) X.drew) (by kernel_rfl) hS0 (fun hHeld => ?_)
 refine wpAnyH_take (i := 1) (v := .pointer (some ⟨bo, 0, none⟩)) rfl (by kernel_rfl) (by kernel_rfl) (by kernel_rfl) (fun _ _ _ h => h) (Or.inl ⟨by rfl, ?_⟩) hHeld ?_
 · intro w' hSw; go_simp; (try with_reducible rfl)
 try simp only [Act.put, List.setIfInBounds_toArray, List.set_cons_zero, List.set_cons_succ]
 refine wpAnyH_take (i := 2) (v := .int .i64 o.kind) rfl (by kernel_rfl) (by kernel_rfl) (by kernel_rfl) (fun _ _ _ h => h) (Or.inl ⟨by rfl, ?_⟩) hHeld ?_
 · intro w' hSw; have c0 := ko w' hSw 0 _ rfl; go_simp; (try with_reducible rfl)
 try simp only [Act.put, List.setIfInBounds_toArray, List.set_cons_zero, List.set_cons_succ]
 refine wpAnyH_take (i := 4) (v := cavV c) rfl (by kernel_rfl) (by kernel_rfl) (by kernel_rfl) (fun _ _ _ h => h) (Or.inl ⟨by rfl, ?_⟩) hHeld ?_
 · intro w' hSw; have c0 := kc w' hSw 0 _ rfl; have c1 := kc w' hSw 1 _ rfl; have c2 := kc w' hSw 2 _ rfl; have c3 := kc w' hSw 3 _ rfl; have c4 := kc w' hSw 4 _ rfl; have c5 := kc w' hSw 5 _ rfl; have c6 := kc w' hSw 6 _ rfl; have c7 := kc w' hSw 7 _ rfl; have c8 := kc w' hSw 8 _ rfl; have c9 := kc w' hSw 9 _ rfl; have c10 := kc w' hSw 10 _ rfl; go_simp; (try with_reducible rfl)
 try simp only [Act.put, List.setIfInBounds_toArray, List.set_cons_zero, List.set_cons_succ]
 refine wpAnyH_take (i := 5) (v := stV s) rfl (by kernel_rfl) (by kernel_rfl) (by kernel_rfl) (fun _ _ _ h => h) (Or.inl ⟨by rfl, ?_⟩) hHeld ?_
 · intro w' hSw; have c0 := ks w' hSw 0 _ rfl; have c1 := ks w' hSw 1 _ rfl; have c2 := ks w' hSw 2 _ rfl; have c3 := ks w' hSw 3 _ rfl; have c4 := ks w' hSw 4 _ rfl; have c5 := ks w' hSw 5 _ rfl; have c6 := ks w' hSw 6 _ rfl; have c7 := ks w' hSw 7 _ rfl; go_simp; (try with_reducible rfl)
 try simp only [Act.put, List.setIfInBounds_toArray, List.set_cons_zero, List.set_cons_succ]
 refine wpAnyH_take (i := 6) (v := opV o) rfl (by kernel_rfl) (by kernel_rfl) (by kernel_rfl) (fun _ _ _ h => h) (Or.inl ⟨by rfl, ?_⟩) hHeld ?_
 · intro w' hSw; have c0 := ko w' hSw 0 _ rfl; have c1 := ko w' hSw 1 _ rfl; have c2 := ko w' hSw 2 _ rfl; have c3 := ko w' hSw 3 _ rfl; have c4 := ko w' hSw 4 _ rfl; have c5 := ko w' hSw 5 _ rfl; have c6 := ko w' hSw 6 _ rfl; have c7 := ko w' hSw 7 _ rfl; have c8 := ko w' hSw 8 _ rfl; have c9 := ko w' hSw 9 _ rfl; go_simp; (try with_reducible rfl)
 try simp only [Act.put, List.setIfInBounds_toArray, List.set_cons_zero, List.set_cons_succ]
 refine wpAnyH_ready (rs := [0]) (by kernel_rfl) (by simp) ?_
 refine AllReadyH.cons rfl (fun K hK => ?_) AllReadyH.nil
 go_simp
 go_at_call 92
 refine Calls.mono (progKinds _) ?_
 rintro e W2 ⟨rfl, hmap, hB2⟩
 go_wp2_with (fail)
 refine hK.out _ _ (hHeld.trans (.all hB2)) (fun hNow => ?_)
 clear hK K hHeld
 have hHeld := hNow
 clear hNow
 try simp only [Act.put, List.setIfInBounds_toArray, List.set_cons_zero, List.set_cons_succ]
 have hlk := run_look hmap hk
 clear hmap
 have hlk' : (Instr.lookup 154 (.map (some X.heap.size)) (.int .i64 o.kind) false).run Tryz.prog W2 = .ok (.func (.func f) #[] #[]) W2 := hlk
 clear hlk
 refine wpAnyH_ready (rs := [3]) (by kernel_rfl) (by simp) ?_
 refine AllReadyH.cons rfl (fun K hK => ?_) AllReadyH.nil
 go_simp
 refine hK.out _ _ hHeld (fun hNow => ?_)
 clear hK K hHeld
 have hHeld := hNow
 clear hNow
 try simp only [Act.put, List.setIfInBounds_toArray, List.set_cons_zero, List.set_cons_succ]
 refine wpAnyH_ready (rs := [7]) (by kernel_rfl) (by simp) ?_
 refine AllReadyH.cons rfl (fun K hK => ?_) AllReadyH.nil
 go_simp
 refine Calls.mono (hcall W2 hB2.size) ?_
 rintro e W3 ⟨st, rfl, hB3⟩
 go_wp2_with (fail)
 exact ⟨rfl, GaveUp.mk ((Below.refl X.heap.size X).drew.trans (hB2.trans (hB3.mono hB2.size)))⟩
end Go.Proofs.YthjmdagonfeneaaGreat.G
