/- Gas: the walk of the function that does one operation (a look into a map of functions, a call of what was found). -/
import Derived.Test.YtdilgjhdimlbkaaDon
import Derived.Deep.RegionHeld3
set_option linter.unusedVariables false
set_option linter.unusedSimpArgs false
namespace Go.Proofs.Ytdilgjhdimlbkaa
open Go.RowKit Go.Sd Gas

theorem Kept.drew_left {S : Nat → Prop} {w w' : World} (h : Kept S w.drew w') : Kept S w w' := ⟨h.os, h.tape, h.output, h.size, h.block⟩
def DidPost (b3 b4 : Nat) (n : St) (q : Gas.Out) (X : World) (e : Ending) (w' : World) : Prop := e = .returned (.tuple #[]) ∧ X.heap.size ≤ w'.heap.size ∧ w'.heap[b3]? = some (.cells #[.int .i64 n.glo, .int .i64 n.ghi, .int .i64 n.ylo, .int .i64 n.yhi, .int .i64 n.tlo, .int .i64 n.thi, .int .i64 n.wlo, .int .i64 n.whi] 48 (0, 0)) ∧ w'.heap[b4]? = some (.cells #[.int .i64 q.glo, .int .i64 q.ghi, .int .i64 q.ylo, .int .i64 q.yhi, .int .i64 q.wlo, .int .i64 q.whi] 51 (0, 0)) ∧ Kept (fun k => k ≠ b3 ∧ k ≠ b4) X w'

set_option maxRecDepth 100000 in
set_option maxHeartbeats 4000000 in
theorem progDoes1Y {bo bc bs b3 b4 f : Nat} (c : Cav) (s : St) (o : Gas.Op) (n : St) (q : Gas.Out) (X : World) (hk : (o.kind = 1 ∧ f = 46) ∨ (o.kind = 2 ∧ f = 47) ∨ (o.kind = 3 ∧ f = 48))
    (e0 : X.heap[bc]? = some (.cells #[.int .i64 c.vlo, .int .i64 c.vhi, .int .i64 c.least, .int .i64 c.most, .int .i64 c.f0, .int .i64 c.f1, .int .i64 c.h0, .int .i64 c.h1, .int .i64 c.rock, .int .i64 c.plo, .int .i64 c.phi] 59 (0, 0))) (e1 : X.heap[bs]? = some (.cells #[.int .i64 s.glo, .int .i64 s.ghi, .int .i64 s.ylo, .int .i64 s.yhi, .int .i64 s.tlo, .int .i64 s.thi, .int .i64 s.wlo, .int .i64 s.whi] 48 (0, 0))) (e2 : X.heap[bo]? = some (.cells #[.int .i64 o.kind, .int .i64 o.lg, .int .i64 o.ly, .int .i64 o.lt, .int .i64 o.lw, .int .i64 o.moles, .int .i64 o.slo, .int .i64 o.shi, .int .i64 o.wlo, .int .i64 o.whi] 57 (0, 0)))
    (e3 : X.heap[b3]? = some (.cells #[.int .i64 0, .int .i64 0, .int .i64 0, .int .i64 0, .int .i64 0, .int .i64 0, .int .i64 0, .int .i64 0] 48 (0, 0))) (e4 : X.heap[b4]? = some (.cells #[.int .i64 0, .int .i64 0, .int .i64 0, .int .i64 0, .int .i64 0, .int .i64 0] 51 (0, 0))) (b3n : b3 ≠ b4 ∧ b3 ≠ bo ∧ b3 ≠ bc ∧ b3 ≠ bs ∧ b4 ≠ bo ∧ b4 ≠ bc ∧ b4 ≠ bs)
    (en : ∀ args w, (callFunc f args).run Try.prog w = .ok (.enter f args) w)
    (hcall : ∀ W', X.heap.size ≤ W'.heap.size → Calls Try.prog f #[cavV c, stV s, opV o] W' (fun e w' => e = .returned (.tuple #[stV n, outV q]) ∧ Below W'.heap.size W' w')) :
    Calls Try.prog 44 #[.pointer (some ⟨bo, 0, none⟩), .pointer (some ⟨bc, 0, none⟩), .pointer (some ⟨bs, 0, none⟩), .pointer (some ⟨b3, 0, none⟩), .pointer (some ⟨b4, 0, none⟩)] X (DidPost b3 b4 n q X) := by
  obtain ⟨zo, ho, -⟩ := row_cells e2
  obtain ⟨zc, hcc, -⟩ := row_cells e0
  obtain ⟨zs, hss, -⟩ := row_cells e1
  have hmm := b3n
  have hS0 : Kept (fun k => k = bo ∨ k = bc ∨ k = bs) X.drew X.drew := .refl _ _
  have ko : ∀ w', Kept (fun k => k = bo ∨ k = bc ∨ k = bs) X.drew w' → ∀ i v, (#[.int .i64 o.kind, .int .i64 o.lg, .int .i64 o.ly, .int .i64 o.lt, .int .i64 o.lw, .int .i64 o.moles, .int .i64 o.slo, .int .i64 o.shi, .int .i64 o.wlo, .int .i64 o.whi] : Array Value)[i]? = some v → w'.cell? ⟨bo, i, none⟩ = some v := fun w' h i v hv => h.cell (.inl rfl) ((ho i).trans hv)
  have kc : ∀ w', Kept (fun k => k = bo ∨ k = bc ∨ k = bs) X.drew w' → ∀ i v, (#[.int .i64 c.vlo, .int .i64 c.vhi, .int .i64 c.least, .int .i64 c.most, .int .i64 c.f0, .int .i64 c.f1, .int .i64 c.h0, .int .i64 c.h1, .int .i64 c.rock, .int .i64 c.plo, .int .i64 c.phi] : Array Value)[i]? = some v → w'.cell? ⟨bc, i, none⟩ = some v := fun w' h i v hv => h.cell (.inr (.inl rfl)) ((hcc i).trans hv)
  have ks : ∀ w', Kept (fun k => k = bo ∨ k = bc ∨ k = bs) X.drew w' → ∀ i v, (#[.int .i64 s.glo, .int .i64 s.ghi, .int .i64 s.ylo, .int .i64 s.yhi, .int .i64 s.tlo, .int .i64 s.thi, .int .i64 s.wlo, .int .i64 s.whi] : Array Value)[i]? = some v → w'.cell? ⟨bs, i, none⟩ = some v := fun w' h i v hv => h.cell (.inr (.inr rfl)) ((hss i).trans hv)
  go_enter Try.func44, Try.ntmps44
  go_wp2
  refine wp_region_held_drew (S := Kept (fun k => k = bo ∨ k = bc ∨ k = bs) X.drew) (by kernel_rfl) hS0 (fun hHeld => ?_)
  refine wpAnyH_take (i := 1) (v := .pointer (some ⟨bo, 0, none⟩)) rfl (by kernel_rfl) (by kernel_rfl) (by kernel_rfl) (fun _ _ _ h => h) (Or.inl ⟨by rfl, ?_⟩) hHeld ?_
  · intro w' hSw; go_simp; (try with_reducible rfl)
  try simp only [Act.put, List.setIfInBounds_toArray, List.set_cons_zero, List.set_cons_succ]
  refine wpAnyH_take (i := 2) (v := .int .i64 o.kind) rfl (by kernel_rfl) (by kernel_rfl) (by kernel_rfl) (fun _ _ _ h => h) (Or.inl ⟨by rfl, ?_⟩) hHeld ?_
  · intro w' hSw; have c0 := ko w' hSw 0 _ rfl; go_simp; (try with_reducible rfl)
  try simp only [Act.put, List.setIfInBounds_toArray, List.set_cons_zero, List.set_cons_succ]
  refine wpAnyH_take (i := 4) (v := cavV c) rfl (by kernel_rfl) (by kernel_rfl) (by kernel_rfl) (fun _ _ _ h => h) (Or.inl ⟨by rfl, ?_⟩) hHeld ?_
  · intro w' hSw; have c0 := kc w' hSw 0 _ rfl; have c1 := kc w' hSw 1 _ rfl; have c2 := kc w' hSw 2 _ rfl; have c3 := kc w' hSw 3 _ rfl; have c4 := kc w' hSw 4 _ rfl; have c5 := kc w' hSw 5 _ rfl; have c6 := kc w' hSw 6 _ rfl; have c7 := kc w' hSw 7 _ rfl; have c8 := kc w' hSw 8 _ rfl; have c9 := kc w' hSw 9 _ rfl; have c10 := kc w' hSw 10 _ rfl; go_simp; (try with_reducible rfl)
  try simp only [Act.put, List.setIfInBounds_toArray, List.set_cons_zero, List.set_cons_succ]
  refine wpAnyH_take (i := 5) (v := stV s) rfl (by kernel_rfl) (by kernel_rfl) (by kernel_rfl) (fun _ _ _ h => h) (Or.inl ⟨by rfl, ?_⟩) hHeld ?_
  · intro w' hSw; have c0 := ks w' hSw 0 _ rfl; have c1 := ks w' hSw 1 _ rfl; have c2 := ks w' hSw 2 _ rfl; have c3 := ks w' hSw 3 _ rfl; have c4 := ks w' hSw 4 _ rfl; have c5 := ks w' hSw 5 _ rfl; have c6 := ks w' hSw 6 _ rfl; have c7 := ks w' hSw 7 _ rfl; go_simp; (try with_reducible rfl)
  try simp only [Act.put, List.setIfInBounds_toArray, List.set_cons_zero, List.set_cons_succ]
  refine wpAnyH_take (i := 6) (v := opV o) rfl (by kernel_rfl) (by kernel_rfl) (by kernel_rfl) (fun _ _ _ h => h) (Or.inl ⟨by rfl, ?_⟩) hHeld ?_
  · intro w' hSw; have c0 := ko w' hSw 0 _ rfl; have c1 := ko w' hSw 1 _ rfl; have c2 := ko w' hSw 2 _ rfl; have c3 := ko w' hSw 3 _ rfl; have c4 := ko w' hSw 4 _ rfl; have c5 := ko w' hSw 5 _ rfl; have c6 := ko w' hSw 6 _ rfl; have c7 := ko w' hSw 7 _ rfl; have c8 := ko w' hSw 8 _ rfl; have c9 := ko w' hSw 9 _ rfl; go_simp; (try with_reducible rfl)
  try simp only [Act.put, List.setIfInBounds_toArray, List.set_cons_zero, List.set_cons_succ]
  refine wpAnyH_ready (rs := [0]) (by kernel_rfl) (by simp) ?_
  refine AllReadyH.cons rfl (fun K hK => ?_) AllReadyH.nil
  go_simp
  go_at_call 45
  refine Calls.mono (progKinds _) ?_
  rintro e W2 ⟨rfl, hmap, hB2⟩
  go_wp2_with (fail)
  refine hK.out _ _ (hHeld.trans (.all hB2)) (fun hNow => ?_)
  clear hK K hHeld
  have hHeld := hNow
  clear hNow
  try simp only [Act.put, List.setIfInBounds_toArray, List.set_cons_zero, List.set_cons_succ]
  have hlk := run_look hmap hk
  clear hmap
  have hlk' : (Instr.lookup 85 (.map (some X.heap.size)) (.int .i64 o.kind) false).run Try.prog W2 = .ok (.func (.func f) #[] #[]) W2 := hlk
  clear hlk
  refine wpAnyH_ready (rs := [3]) (by kernel_rfl) (by simp) ?_
  refine AllReadyH.cons rfl (fun K hK => ?_) AllReadyH.nil
  go_simp
  refine hK.out _ _ hHeld (fun hNow => ?_)
  clear hK K hHeld
  have hHeld := hNow
  clear hNow
  try simp only [Act.put, List.setIfInBounds_toArray, List.set_cons_zero, List.set_cons_succ]
  refine wpAnyH_ready (rs := [7]) (by kernel_rfl) (by simp) ?_
  refine AllReadyH.cons rfl (fun K hK => ?_) AllReadyH.nil
  go_simp
  refine Calls.mono (hcall W2 hB2.size) ?_
  rintro e W3 ⟨rfl, hB3⟩
  go_wp2_with (fail)
  refine hK.out _ _ (hHeld.trans (.all hB3)) (fun hNow => ?_)
  clear hK K hHeld
  have hHeld := hNow
  clear hNow
  try simp only [Act.put, List.setIfInBounds_toArray, List.set_cons_zero, List.set_cons_succ]
  refine wpAnyH_take (i := 8) (v := .tuple #[stV n, outV q]) rfl (by kernel_rfl) (by kernel_rfl) (by kernel_rfl) (fun _ _ _ h => h) (Or.inl ⟨by rfl, ?_⟩) hHeld ?_
  · intro w' hSw; go_simp; (try with_reducible rfl)
  try simp only [Act.put, List.setIfInBounds_toArray, List.set_cons_zero, List.set_cons_succ]
  refine wpAnyH_take (i := 9) (v := stV n) rfl (by kernel_rfl) (by kernel_rfl) (by kernel_rfl) (fun _ _ _ h => h) (Or.inl ⟨by rfl, ?_⟩) hHeld ?_
  · intro w' hSw; go_simp; (try with_reducible rfl)
  try simp only [Act.put, List.setIfInBounds_toArray, List.set_cons_zero, List.set_cons_succ]
  refine wpAnyH_take (i := 10) (v := outV q) rfl (by kernel_rfl) (by kernel_rfl) (by kernel_rfl) (fun _ _ _ h => h) (Or.inl ⟨by rfl, ?_⟩) hHeld ?_
  · intro w' hSw; go_simp; (try with_reducible rfl)
  try simp only [Act.put, List.setIfInBounds_toArray, List.set_cons_zero, List.set_cons_succ]
  have hBx : Below X.heap.size X W3 := (Below.refl X.heap.size X).drew.trans (hB2.trans (hB3.mono hB2.size))
  have r3 := (hBx.block b3 (Array.getElem?_eq_some_iff.1 e3).1).trans e3
  have r4 := (hBx.block b4 (Array.getElem?_eq_some_iff.1 e4).1).trans e4
  have y3 := row_cells r3
  have y4 := row_cells r4
  have q3_0 : W3.cell? ⟨b3, 0, none⟩ = some (.int .i64 0) := y3.2.1 0
  have f3_0 : W3.frozen? ⟨b3, 0, none⟩ = false := y3.2.2 0
  have q3_1 : W3.cell? ⟨b3, 1, none⟩ = some (.int .i64 0) := y3.2.1 1
  have f3_1 : W3.frozen? ⟨b3, 1, none⟩ = false := y3.2.2 1
  have q3_2 : W3.cell? ⟨b3, 2, none⟩ = some (.int .i64 0) := y3.2.1 2
  have f3_2 : W3.frozen? ⟨b3, 2, none⟩ = false := y3.2.2 2
  have q3_3 : W3.cell? ⟨b3, 3, none⟩ = some (.int .i64 0) := y3.2.1 3
  have f3_3 : W3.frozen? ⟨b3, 3, none⟩ = false := y3.2.2 3
  have q3_4 : W3.cell? ⟨b3, 4, none⟩ = some (.int .i64 0) := y3.2.1 4
  have f3_4 : W3.frozen? ⟨b3, 4, none⟩ = false := y3.2.2 4
  have q3_5 : W3.cell? ⟨b3, 5, none⟩ = some (.int .i64 0) := y3.2.1 5
  have f3_5 : W3.frozen? ⟨b3, 5, none⟩ = false := y3.2.2 5
  have q3_6 : W3.cell? ⟨b3, 6, none⟩ = some (.int .i64 0) := y3.2.1 6
  have f3_6 : W3.frozen? ⟨b3, 6, none⟩ = false := y3.2.2 6
  have q3_7 : W3.cell? ⟨b3, 7, none⟩ = some (.int .i64 0) := y3.2.1 7
  have f3_7 : W3.frozen? ⟨b3, 7, none⟩ = false := y3.2.2 7
  have q4_0 : W3.cell? ⟨b4, 0, none⟩ = some (.int .i64 0) := y4.2.1 0
  have f4_0 : W3.frozen? ⟨b4, 0, none⟩ = false := y4.2.2 0
  have q4_1 : W3.cell? ⟨b4, 1, none⟩ = some (.int .i64 0) := y4.2.1 1
  have f4_1 : W3.frozen? ⟨b4, 1, none⟩ = false := y4.2.2 1
  have q4_2 : W3.cell? ⟨b4, 2, none⟩ = some (.int .i64 0) := y4.2.1 2
  have f4_2 : W3.frozen? ⟨b4, 2, none⟩ = false := y4.2.2 2
  have q4_3 : W3.cell? ⟨b4, 3, none⟩ = some (.int .i64 0) := y4.2.1 3
  have f4_3 : W3.frozen? ⟨b4, 3, none⟩ = false := y4.2.2 3
  have q4_4 : W3.cell? ⟨b4, 4, none⟩ = some (.int .i64 0) := y4.2.1 4
  have f4_4 : W3.frozen? ⟨b4, 4, none⟩ = false := y4.2.2 4
  have q4_5 : W3.cell? ⟨b4, 5, none⟩ = some (.int .i64 0) := y4.2.1 5
  have f4_5 : W3.frozen? ⟨b4, 5, none⟩ = false := y4.2.2 5
  have h34 : b3 ≠ b4 := b3n.1
  have h43 : b4 ≠ b3 := fun h => b3n.1 h.symm
  refine wpAnyH_ready (rs := [11]) (by kernel_rfl) (by simp) ?_
  refine AllReadyH.cons rfl (fun K hK => ?_) AllReadyH.nil
  go_simp
  refine hK.out _ _ ?_ (fun hNow => ?_)
  · repeat' (first | (with_reducible exact hHeld) | refine Kept.setCell ?_ (.inl (by simp only; omega)) _)
  clear hK K hHeld
  have hHeld := hNow
  clear hNow
  try simp only [Act.put, List.setIfInBounds_toArray, List.set_cons_zero, List.set_cons_succ]
  refine wpAnyH_ready (rs := [12]) (by kernel_rfl) (by simp) ?_
  refine AllReadyH.cons rfl (fun K hK => ?_) AllReadyH.nil
  go_simp
  refine hK.out _ _ ?_ (fun hNow => ?_)
  · repeat' (first | (with_reducible exact hHeld) | refine Kept.setCell ?_ (.inl (by simp only; omega)) _)
  clear hK K hHeld
  have hHeld := hNow
  clear hNow
  try simp only [Act.put, List.setIfInBounds_toArray, List.set_cons_zero, List.set_cons_succ]
  refine wpAnyH_done (by kernel_rfl) ?_ _
  refine bodyPost_end (results_none rfl _ _ _) rfl ?_
  have hkk : Kept (fun k => k ≠ b3 ∧ k ≠ b4) X W3 := .all hBx
  have hK3 : ∀ V : World, Kept (fun k => k ≠ b3 ∧ k ≠ b4) X V → ∀ (i : Nat) u, Kept (fun k => k ≠ b3 ∧ k ≠ b4) X (V.setCell ⟨b3, i, none⟩ u) := fun V h i u => h.setCell (.inl (by simp only; omega)) u
  have hK4 : ∀ V : World, Kept (fun k => k ≠ b3 ∧ k ≠ b4) X V → ∀ (i : Nat) u, Kept (fun k => k ≠ b3 ∧ k ≠ b4) X (V.setCell ⟨b4, i, none⟩ u) := fun V h i u => h.setCell (.inl (by simp only; omega)) u
  have hfin := hK4 _ (hK4 _ (hK4 _ (hK4 _ (hK4 _ (hK4 _ (hK3 _ (hK3 _ (hK3 _ (hK3 _ (hK3 _ (hK3 _ (hK3 _ (hK3 _ hkk 0 (.int .i64 n.glo)) 1 (.int .i64 n.ghi)) 2 (.int .i64 n.ylo)) 3 (.int .i64 n.yhi)) 4 (.int .i64 n.tlo)) 5 (.int .i64 n.thi)) 6 (.int .i64 n.wlo)) 7 (.int .i64 n.whi)) 0 (.int .i64 q.glo)) 1 (.int .i64 q.ghi)) 2 (.int .i64 q.ylo)) 3 (.int .i64 q.yhi)) 4 (.int .i64 q.wlo)) 5 (.int .i64 q.whi)
  exact ⟨rfl, hfin.size, (set_other6 _ _ _ _ _ _ h34).trans (set_cells8 r3 _ _ _ _ _ _ _ _), set_cells6 ((set_other8 _ _ _ _ _ _ _ _ h43).trans r4) _ _ _ _ _ _, hfin⟩

set_option maxRecDepth 100000 in
set_option maxHeartbeats 4000000 in
theorem progDoes1N {bo bc bs b3 b4 f : Nat} (c : Cav) (s : St) (o : Gas.Op) (X : World) (hk : (o.kind = 1 ∧ f = 46) ∨ (o.kind = 2 ∧ f = 47) ∨ (o.kind = 3 ∧ f = 48))
    (e0 : X.heap[bc]? = some (.cells #[.int .i64 c.vlo, .int .i64 c.vhi, .int .i64 c.least, .int .i64 c.most, .int .i64 c.f0, .int .i64 c.f1, .int .i64 c.h0, .int .i64 c.h1, .int .i64 c.rock, .int .i64 c.plo, .int .i64 c.phi] 59 (0, 0))) (e1 : X.heap[bs]? = some (.cells #[.int .i64 s.glo, .int .i64 s.ghi, .int .i64 s.ylo, .int .i64 s.yhi, .int .i64 s.tlo, .int .i64 s.thi, .int .i64 s.wlo, .int .i64 s.whi] 48 (0, 0))) (e2 : X.heap[bo]? = some (.cells #[.int .i64 o.kind, .int .i64 o.lg, .int .i64 o.ly, .int .i64 o.lt, .int .i64 o.lw, .int .i64 o.moles, .int .i64 o.slo, .int .i64 o.shi, .int .i64 o.wlo, .int .i64 o.whi] 57 (0, 0)))
    (e3 : X.heap[b3]? = some (.cells #[.int .i64 0, .int .i64 0, .int .i64 0, .int .i64 0, .int .i64 0, .int .i64 0, .int .i64 0, .int .i64 0] 48 (0, 0))) (e4 : X.heap[b4]? = some (.cells #[.int .i64 0, .int .i64 0, .int .i64 0, .int .i64 0, .int .i64 0, .int .i64 0] 51 (0, 0))) (b3n : b3 ≠ b4 ∧ b3 ≠ bo ∧ b3 ≠ bc ∧ b3 ≠ bs ∧ b4 ≠ bo ∧ b4 ≠ bc ∧ b4 ≠ bs)
    (en : ∀ args w, (callFunc f args).run Try.prog w = .ok (.enter f args) w)
    (hcall : ∀ W', X.heap.size ≤ W'.heap.size → Calls Try.prog f #[cavV c, stV s, opV o] W' (GaveUp W')) :
    Calls Try.prog 44 #[.pointer (some ⟨bo, 0, none⟩), .pointer (some ⟨bc, 0, none⟩), .pointer (some ⟨bs, 0, none⟩), .pointer (some ⟨b3, 0, none⟩), .pointer (some ⟨b4, 0, none⟩)] X (GaveUp X) := by
  obtain ⟨zo, ho, -⟩ := row_cells e2
  obtain ⟨zc, hcc, -⟩ := row_cells e0
  obtain ⟨zs, hss, -⟩ := row_cells e1
  have hmm := b3n
  have hS0 : Kept (fun k => k = bo ∨ k = bc ∨ k = bs) X.drew X.drew := .refl _ _
  have ko : ∀ w', Kept (fun k => k = bo ∨ k = bc ∨ k = bs) X.drew w' → ∀ i v, (#[.int .i64 o.kind, .int .i64 o.lg, .int .i64 o.ly, .int .i64 o.lt, .int .i64 o.lw, .int .i64 o.moles, .int .i64 o.slo, .int .i64 o.shi, .int .i64 o.wlo, .int .i64 o.whi] : Array Value)[i]? = some v → w'.cell? ⟨bo, i, none⟩ = some v := fun w' h i v hv => h.cell (.inl rfl) ((ho i).trans hv)
  have kc : ∀ w', Kept (fun k => k = bo ∨ k = bc ∨ k = bs) X.drew w' → ∀ i v, (#[.int .i64 c.vlo, .int .i64 c.vhi, .int .i64 c.least, .int .i64 c.most, .int .i64 c.f0, .int .i64 c.f1, .int .i64 c.h0, .int .i64 c.h1, .int .i64 c.rock, .int .i64 c.plo, .int .i64 c.phi] : Array Value)[i]? = some v → w'.cell? ⟨bc, i, none⟩ = some v := fun w' h i v hv => h.cell (.inr (.inl rfl)) ((hcc i).trans hv)
  have ks : ∀ w', Kept (fun k => k = bo ∨ k = bc ∨ k = bs) X.drew w' → ∀ i v, (#[.int .i64 s.glo, .int .i64 s.ghi, .int .i64 s.ylo, .int .i64 s.yhi, .int .i64 s.tlo, .int .i64 s.thi, .int .i64 s.wlo, .int .i64 s.whi] : Array Value)[i]? = some v → w'.cell? ⟨bs, i, none⟩ = some v := fun w' h i v hv => h.cell (.inr (.inr rfl)) ((hss i).trans hv)
  go_enter Try.func44, Try.ntmps44
  go_wp2
  refine wp_region_held_drew (S := Kept (fun k => k = bo ∨ k = bc ∨ k = bs) X.drew) (by kernel_rfl) hS0 (fun hHeld => ?_)
  refine wpAnyH_take (i := 1) (v := .pointer (some ⟨bo, 0, none⟩)) rfl (by kernel_rfl) (by kernel_rfl) (by kernel_rfl) (fun _ _ _ h => h) (Or.inl ⟨by rfl, ?_⟩) hHeld ?_
  · intro w' hSw; go_simp; (try with_reducible rfl)
  try simp only [Act.put, List.setIfInBounds_toArray, List.set_cons_zero, List.set_cons_succ]
  refine wpAnyH_take (i := 2) (v := .int .i64 o.kind) rfl (by kernel_rfl) (by kernel_rfl) (by kernel_rfl) (fun _ _ _ h => h) (Or.inl ⟨by rfl, ?_⟩) hHeld ?_
  · intro w' hSw; have c0 := ko w' hSw 0 _ rfl; go_simp; (try with_reducible rfl)
  try simp only [Act.put, List.setIfInBounds_toArray, List.set_cons_zero, List.set_cons_succ]
  refine wpAnyH_take (i := 4) (v := cavV c) rfl (by kernel_rfl) (by kernel_rfl) (by kernel_rfl) (fun _ _ _ h => h) (Or.inl ⟨by rfl, ?_⟩) hHeld ?_
  · intro w' hSw; have c0 := kc w' hSw 0 _ rfl; have c1 := kc w' hSw 1 _ rfl; have c2 := kc w' hSw 2 _ rfl; have c3 := kc w' hSw 3 _ rfl; have c4 := kc w' hSw 4 _ rfl; have c5 := kc w' hSw 5 _ rfl; have c6 := kc w' hSw 6 _ rfl; have c7 := kc w' hSw 7 _ rfl; have c8 := kc w' hSw 8 _ rfl; have c9 := kc w' hSw 9 _ rfl; have c10 := kc w' hSw 10 _ rfl; go_simp; (try with_reducible rfl)
  try simp only [Act.put, List.setIfInBounds_toArray, List.set_cons_zero, List.set_cons_succ]
  refine wpAnyH_take (i := 5) (v := stV s) rfl (by kernel_rfl) (by kernel_rfl) (by kernel_rfl) (fun _ _ _ h => h) (Or.inl ⟨by rfl, ?_⟩) hHeld ?_
  · intro w' hSw; have c0 := ks w' hSw 0 _ rfl; have c1 := ks w' hSw 1 _ rfl; have c2 := ks w' hSw 2 _ rfl; have c3 := ks w' hSw 3 _ rfl; have c4 := ks w' hSw 4 _ rfl; have c5 := ks w' hSw 5 _ rfl; have c6 := ks w' hSw 6 _ rfl; have c7 := ks w' hSw 7 _ rfl; go_simp; (try with_reducible rfl)
  try simp only [Act.put, List.setIfInBounds_toArray, List.set_cons_zero, List.set_cons_succ]
  refine wpAnyH_take (i := 6) (v := opV o) rfl (by kernel_rfl) (by kernel_rfl) (by kernel_rfl) (fun _ _ _ h => h) (Or.inl ⟨by rfl, ?_⟩) hHeld ?_
  · intro w' hSw; have c0 := ko w' hSw 0 _ rfl; have c1 := ko w' hSw 1 _ rfl; have c2 := ko w' hSw 2 _ rfl; have c3 := ko w' hSw 3 _ rfl; have c4 := ko w' hSw 4 _ rfl; have c5 := ko w' hSw 5 _ rfl; have c6 := ko w' hSw 6 _ rfl; have c7 := ko w' hSw 7 _ rfl; have c8 := ko w' hSw 8 _ rfl; have c9 := ko w' hSw 9 _ rfl; go_simp; (try with_reducible rfl)
  try simp only [Act.put, List.setIfInBounds_toArray, List.set_cons_zero, List.set_cons_succ]
  refine wpAnyH_ready (rs := [0]) (by kernel_rfl) (by simp) ?_
  refine AllReadyH.cons rfl (fun K hK => ?_) AllReadyH.nil
  go_simp
  go_at_call 45
  refine Calls.mono (progKinds _) ?_
  rintro e W2 ⟨rfl, hmap, hB2⟩
  go_wp2_with (fail)
  refine hK.out _ _ (hHeld.trans (.all hB2)) (fun hNow => ?_)
  clear hK K hHeld
  have hHeld := hNow
  clear hNow
  try simp only [Act.put, List.setIfInBounds_toArray, List.set_cons_zero, List.set_cons_succ]
  have hlk := run_look hmap hk
  clear hmap
  have hlk' : (Instr.lookup 85 (.map (some X.heap.size)) (.int .i64 o.kind) false).run Try.prog W2 = .ok (.func (.func f) #[] #[]) W2 := hlk
  clear hlk
  refine wpAnyH_ready (rs := [3]) (by kernel_rfl) (by simp) ?_
  refine AllReadyH.cons rfl (fun K hK => ?_) AllReadyH.nil
  go_simp
  refine hK.out _ _ hHeld (fun hNow => ?_)
  clear hK K hHeld
  have hHeld := hNow
  clear hNow
  try simp only [Act.put, List.setIfInBounds_toArray, List.set_cons_zero, List.set_cons_succ]
  refine wpAnyH_ready (rs := [7]) (by kernel_rfl) (by simp) ?_
  refine AllReadyH.cons rfl (fun K hK => ?_) AllReadyH.nil
  go_simp
  refine Calls.mono (hcall W2 hB2.size) ?_
  rintro e W3 ⟨st, rfl, hB3⟩
  go_wp2_with (fail)
  exact ⟨rfl, GaveUp.mk ((Below.refl X.heap.size X).drew.trans (hB2.trans (hB3.mono hB2.size)))⟩
end Go.Proofs.Ytdilgjhdimlbkaa
