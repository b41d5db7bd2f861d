/- Laws and walks: LFwd. -/
import Derived.Test.YthbkcoijafehgaaGreatK19
import Derived.Test.YthbkcoijafehgaaGreatK23
set_option linter.unusedVariables false
set_option linter.unusedSimpArgs false
namespace Lk
/-- The list of bounds behind k days. -/
def Bk.part (b : Bk) (g : Gs) (z : Nat) (l : List Sp) : Nat → List Sp
  | 0 => l
  | k + 1 => (Bk.part b g z l k).set k (b.fwd g z (k + 1))
theorem part_len {b : Bk} {g : Gs} {z : Nat} {l : List Sp} : ∀ k, (b.part g z l k).length = l.length
  | 0 => rfl
  | k + 1 => by simp [Bk.part, part_len k]
theorem part_at {b : Bk} {g : Gs} {z : Nat} {l : List Sp} : ∀ k t, k ≤ l.length → t < k → spAt (b.part g z l k) t = b.fwd g z (t + 1)
  | 0, t, _, h => by omega
  | k + 1, t, hl, h => by
    unfold Bk.part
    rw [spAt_set (by rw [part_len]; omega)]
    by_cases ht : t = k
    · rw [if_pos ht, ht]
    · rw [if_neg ht]; exact part_at k t (by omega) (by omega)
theorem okTo_no {b : Bk} {g : Gs} {z k : Nat} (h : b.okTo g z k = false) : ∀ n, k ≤ n → b.okTo g z n = false := by
  intro n hn
  induction n with
  | zero => obtain rfl : k = 0 := by omega
            exact h
  | succ n ih =>
    by_cases hk : k = n + 1
    · rw [← hk]; exact h
    · simp [Bk.okTo, ih (by omega)]
theorem okTo_le {b : Bk} {g : Gs} {z : Nat} {k n : Nat} (h : b.okTo g z n = true) (hk : k ≤ n) : b.okTo g z k = true := by
  cases hc : b.okTo g z k
  · rw [okTo_no hc n hk] at h; cases h
  · rfl
theorem meets_bd {m : Int} : ∀ (l : List Sp) (s : Sp), (-m ≤ s.lo ∧ s.hi ≤ m) → (∀ x ∈ l, -m ≤ x.lo ∧ x.lo ≤ x.hi ∧ x.hi ≤ m) → (s.lo ≤ m ∧ -m ≤ s.hi) → (-m ≤ (meets s l).lo ∧ (meets s l).hi ≤ m) ∧ ((meets s l).lo ≤ m ∧ -m ≤ (meets s l).hi)
  | [], s, h, _, h2 => ⟨h, h2⟩
  | x :: l, s, h, hl, h2 => by
    have hx := hl x List.mem_cons_self
    exact meets_bd l (meet s x) (by simp only [meet]; omega) (fun y hy => hl y (List.mem_cons_of_mem _ hy)) (by simp only [meet]; omega)
theorem mem_readsAt {b : Bk} (ok : Ok b) {z d : Int} {x : Sp} (h : x ∈ b.readsAt z d) : -1000000000 ≤ x.lo ∧ x.lo ≤ x.hi ∧ x.hi ≤ 1000000000 := by
  unfold Bk.readsAt at h
  obtain ⟨r, hr, rfl⟩ := List.mem_map.1 h
  obtain ⟨i, hi, rfl⟩ := List.getElem_of_mem (List.mem_filter.1 hr).1
  have := ok.reads i hi
  have e : rdAt b.reads i = b.reads[i] := by simp [rdAt, hi]
  rw [e] at this; omega
theorem comes_bd {b : Bk} (ok : Ok b) {g : Gs} (hg : b.gsB g = true) {z d : Nat} (hz : z < b.first.length) (hd : d < b.flows.length) :
    -110000000 ≤ (b.comes g z d).lo ∧ (b.comes g z d).lo ≤ (b.comes g z d).hi ∧ (b.comes g z d).hi ≤ 110000000 := by
  have hf := ok.flows d z hd hz
  have hsz : 0 ≤ g.size ∧ g.size ≤ 10000000 := by
    simp only [Bk.gsB, Bool.or_eq_true, decide_eq_true_eq, Bool.and_eq_true, inB_iff] at hg
    rcases hg with rfl | hg
    · simp [noGs]
    · omega
  simp only [Bk.comes, Bk.flowAt, lost]
  split <;> omega
theorem fwd_bd {b : Bk} (ok : Ok b) {g : Gs} (hg : b.gsB g = true) {z : Nat} (hz : z < b.first.length) : ∀ k, k ≤ b.flows.length → -10000000000 ≤ (b.fwd g z k).lo ∧ (b.fwd g z k).lo ≤ 10000000000 ∧ -10000000000 ≤ (b.fwd g z k).hi ∧ (b.fwd g z k).hi ≤ 10000000000 := by
  have key : ∀ k, k ≤ b.flows.length → -1000000000 - 110000000 * (k : Int) ≤ (b.fwd g z k).lo ∧ (b.fwd g z k).hi ≤ 1000000000 + 110000000 * (k : Int) ∧ (b.fwd g z k).lo ≤ 1000000000 + 110000000 * (k : Int) ∧ -1000000000 - 110000000 * (k : Int) ≤ (b.fwd g z k).hi := by
    intro k
    induction k with
    | zero => intro _; have := ok.first z hz; simp only [Bk.fwd]; omega
    | succ k ih =>
      intro hk
      have h1 := ih (by omega)
      have h2 := comes_bd ok hg hz (show k < b.flows.length by omega)
      have := meets_bd (m := 1000000000 + 110000000 * ((k : Int) + 1)) (b.readsAt z k) (addSp (b.fwd g z k) (b.comes g z k)) (by simp only [addSp]; omega) (fun x hx => by have := mem_readsAt ok hx; omega) (by simp only [addSp]; omega)
      simp only [Bk.fwd]
      push_cast
      omega
  intro k hk
  have := key k hk
  have := ok.nd
  omega
end Lk
namespace Go.Proofs.YthbkcoijafehgaaGreat.L
open Go.RowKit Go.Sd Lk
attribute [local go_sem] Oper.semAt_some
theorem leaves_one {fn : Func} {tmps : Array Value} {R : Ending → World → Prop} {D : Nat} {u : FrameMode} {w : World} (hu : u ≠ .run) (hd : w.heap[D]? = some (.deferred (some []))) (h : LeavesInM Fence.wide 0 Tryz.prog fn tmps R [] u (w.putObj D (.deferred none))) :
    LeavesInM Fence.wide 0 Tryz.prog fn tmps R [{ target := .collected D, args := #[] }] u w :=
  ⟨hu, .inl ⟨D, _, rfl, run_takeDeferred hd, h⟩⟩
theorem set_one {w : World} {n : Nat} {c : Array Value} {e : TypeId} (h : w.heap[n]? = some (.cells c e (0, 0))) (i : Nat) (v : Value) : (w.setCell ⟨n, i, none⟩ v).heap[n]? = some (.cells (c.setIfInBounds i v) e (0, 0)) := by
  simp only [World.setCell, Array.getElem?_modify, if_true, h]
  rfl
/-- A map of slices of spans, as the value of a variable. -/
def GrpIs (B : Nat) (f : Int → List Sp) : Value → World → Prop := fun v w => ∃ M, v = .map (some M) ∧ B ≤ M ∧ OwnGrp B M w f
theorem pers_grp (B : Nat) (f : Int → List Sp) : Pers (GrpIs B f) := fun v w w' hb ⟨M, h1, h2, h3⟩ => ⟨M, h1, h2, h3.mono hb⟩
/-- What forwards leaves. -/
def FwdPost (b : Bk) (g : Gs) (z q : Nat) (l : List Sp) (w : World) (e : Ending) (w' : World) : Prop :=
  Kept (fun k => k ≠ q) w w' ∧ ((b.zoneB g z = true ∧ e = .returned (.tuple #[]) ∧ BlkAt w' q (b.part g z l b.flows.length)) ∨ (b.zoneB g z = false ∧ e = panicNo z))
set_option maxRecDepth 100000 in
set_option maxHeartbeats 8000000 in
theorem progForwards (p q cap : Nat) (fv wv rv : Value) (b : Bk) (g : Gs) (z : Nat) (l : List Sp) (W0 w : World) (hv : w.heap[p]? = some (viO fv wv rv g z (.slice (some ⟨q, 0, none⟩) b.flows.length cap))) (hq : BlkAt w q l) (hl : l.length = b.flows.length)
    (hb : BookAt W0 fv wv rv b) (h0 : Below W0.heap.size W0 w) (hq0 : W0.heap.size ≤ q) (hpq : p ≠ q) (ok : Ok b) (hg : b.gsB g = true) (hz : z < b.first.length) :
    Calls Tryz.prog 60 #[.pointer (some ⟨p, 0, none⟩)] w (FwdPost b g z q l w) := by
  have hnd := ok.nd
  have hnr := ok.nr
  obtain ⟨X0, hX0⟩ : ∃ X, w.alloc (.cells #[.pointer (some ⟨p, 0, none⟩)] 128) = X := ⟨_, rfl⟩
  obtain ⟨e0, b0, s0⟩ := boxed hX0
  have B0 : Below w.heap.size w X0 := b0
  have hv0 := kept_block b0 hv
  obtain ⟨v0, v1, v2, v3, v4, v5, v6, v7⟩ := rc8 hv0
  have o0 := rc1 e0
  have hbX := hb.mono (h0.trans (b0.mono h0.size))
  obtain ⟨fb, fo, fc, rfl, hfb, hfm, y0, y1⟩ := sp_cells hbX.first hz
  obtain ⟨wa, wc, rfl, hwm, -⟩ := hbX.flows.form
  obtain ⟨ra, rc, rfl, hrm, -⟩ := hbX.reads.form
  have zp := (Array.getElem?_eq_some_iff.1 hv0).1
  have z0 := (Array.getElem?_eq_some_iff.1 e0).1
  have zq := Nat.lt_of_lt_of_le hq.lt b0.size
  have hzi : (z : Int) < (b.first.length : Int) := by omega
  have hne0 : p ≠ w.heap.size := by have := (Array.getElem?_eq_some_iff.1 hv).1; omega
  have hqw := hq.lt
  have hpw : p < w.heap.size := (Array.getElem?_eq_some_iff.1 hv).1
  have hX0s : w.heap.size < X0.heap.size := z0
  clear s0 b0
  refine (callsIn_wide (n := 0)).1 ?_
  refine calls_of_wpAt Tryz.func60 rfl ?_
  simp only [Tryz.ntmps60, List.size_toArray, List.length_cons, List.length_nil, Nat.reduceAdd, Nat.reduceSub, Array.replicate_succ, Array.replicate_zero, List.push_toArray, List.append_toArray, List.nil_append, List.cons_append]
  refine WpAt.seq_k fun K hK => ?_
  go_wp2
  refine WpAt.seq_k fun K hK => ?_
  refine wp_region_vars growth_below (va := [⟨12, 2, 23, #[.int .i64 0, .int .i64 0], 13, .tmp 17⟩]) (by kernel_rfl) (by kernel_rfl) ?_ ?_ (by simp) (fun T f hT hf hcl => ?_)
  · intro p hp w
    simp only [List.mem_cons, List.not_mem_nil, or_false] at hp
    rcases hp with rfl <;> go_simp
  · intro p hp
    simp only [List.mem_cons, List.not_mem_nil, or_false] at hp
    rcases hp with rfl <;> kernel_rfl
  have hg : ∀ (g : T) (b o : Nat), b < X0.heap.size → (f g).cell? ⟨b, o, none⟩ = X0.cell? ⟨b, o, none⟩ := fun g => below_cell (hf g)
  simp only [lexOf, List.zipIdx_cons, List.zipIdx_nil, List.map_cons, List.map_nil, isMade, List.any_cons, List.any_nil, Nat.reduceAdd, Nat.reduceBEq, Bool.or_false, Bool.false_or, Bool.or_self, Bool.false_eq_true, if_false, if_true, Nat.zero_add, BEq.rfl, Bool.or_true, Bool.true_or]
  simp only [Go.Sd.blank]
  repeat (go_big_quiet_step (fail))
  refine wpQuiet_nil ?_
  refine ⟨?_, ?_⟩
  · intro p hp
    simp only [List.mem_cons, List.not_mem_nil, or_false] at hp
    rcases hp with rfl <;> (constructor <;> simp [go_sem, Value.cells, Value.oneCell'])
  intro ns w' hB hv
  have hvb := hv.2.2
  obtain ⟨n1, rfl, hn1, hl1, hc1, hf1⟩ := vars_one hv
  have en1 := (hvb 0 _ n1 rfl rfl).2
  simp [go_sem, Value.cells] at en1
  clear hvb
  clear hv hf hcl hg
  simp only [placeV, Act.put, List.setIfInBounds_toArray, List.set_cons_zero, List.set_cons_succ]
  simp [go_sem] at hc1
  replace v0 := kept_cell hB v0
  replace v1 := kept_cell hB v1
  replace v2 := kept_cell hB v2
  replace v3 := kept_cell hB v3
  replace v4 := kept_cell hB v4
  replace v5 := kept_cell hB v5
  replace v6 := kept_cell hB v6
  replace v7 := kept_cell hB v7
  replace y0 := kept_cell hB y0
  replace y1 := kept_cell hB y1
  replace o0 := kept_cell hB o0
  replace zp := Nat.lt_of_lt_of_le zp hB.size
  replace z0 := Nat.lt_of_lt_of_le z0 hB.size
  replace zq := Nat.lt_of_lt_of_le zq hB.size
  replace hfb := Nat.lt_of_lt_of_le hfb hB.size
  replace e0 := kept_block hB e0
  replace hv0 := kept_block hB hv0
  obtain ⟨X1, rfl⟩ : ∃ X, X = w' := ⟨_, rfl⟩
  have B1 : Below w.heap.size w X1 := below_tr B0 hB
  have zn1 : n1 < X1.heap.size := hl1
  have hn1w : w.heap.size < n1 := by omega
  have hbX1 := hbX.mono hB
  have kR := Lib.hid (fun (x : World) (h : Below X1.heap.size X1 x) => progRead _ _ _ b z x (hbX1.mono h) (by omega))
  clear hc1 hf1 hbX hB hn1 hl1
  go_wp2
  refine WpAt.seq_k fun K hK => ?_
  refine plain_region (by kernel_rfl) (any_region_locN 10 55 [] [18, 19, 20, 21, 22, 23, 24, 25, 26, 3] [[], [0], [1], [2], [], [4], [5], [6], [3, 7], []] [IsV (.pointer (some ⟨p, 0, none⟩)), IsV (.pointer (some ⟨p, 0, none⟩)), IsV (.pointer (some ⟨p, 0, none⟩)), IsV (bkV (.slice (some ⟨fb, fo, none⟩) b.first.length fc) (.slice wa b.flows.length wc) (.slice ra b.reads.length rc)), IsV (.pointer (some ⟨p, 0, none⟩)), IsV (.pointer (some ⟨p, 0, none⟩)), IsV (.pointer (some ⟨p, 6, none⟩)), IsV (.int .i64 z), GrpIs X1.heap.size (fun d => b.readsAt z d), NewAt X1.heap.size #[.map none] 144] [9] (by kernel_rfl) (by kernel_rfl) (by kernel_rfl) (by kernel_rfl) (by kernel_rfl) rfl OnlyN.panic ?_ ?_ ?_ (fun j hj => nomatch hj) ?_)
  · exact List.forall_mem_cons.2 ⟨pers_v _, List.forall_mem_cons.2 ⟨pers_v _, List.forall_mem_cons.2 ⟨pers_v _, List.forall_mem_cons.2 ⟨pers_v _, List.forall_mem_cons.2 ⟨pers_v _, List.forall_mem_cons.2 ⟨pers_v _, List.forall_mem_cons.2 ⟨pers_v _, List.forall_mem_cons.2 ⟨pers_v _, List.forall_mem_cons.2 ⟨pers_grp _ _, List.forall_mem_cons.2 ⟨pers_new _ _ _, fun f h => nomatch h⟩⟩⟩⟩⟩⟩⟩⟩⟩⟩
  · intro k hk u x hu
    obtain rfl : k = 9 := by simpa using hk
    exact NewAt.isNew (show NewAt _ _ _ u x from hu)
  · refine ⟨?_, ?_, ?_, ?_, ?_, ?_, ?_, ?_, ?_, ?_, trivial⟩
    · intro vals x hb hf
      simp only [fillS, List.getD_cons_succ, List.getD_cons_zero, Act.put, List.setIfInBounds_toArray, List.set_cons_zero, List.set_cons_succ]
      clear hf
      have u0 := kept_cell hb v0
      have u1 := kept_cell hb v1
      have u2 := kept_cell hb v2
      have u6 := kept_cell hb v6
      have uo := kept_cell hb o0
      go_wp2
      exact ⟨rfl, rfl, Below.refl _ _, _, rfl, rfl, (fun h => absurd h (by decide))⟩
    · intro vals x hb hf
      simp only [fillS, List.getD_cons_succ, List.getD_cons_zero, Act.put, List.setIfInBounds_toArray, List.set_cons_zero, List.set_cons_succ]
      have h0 : vals 0 = .pointer (some ⟨p, 0, none⟩) := hf.1
      rw [h0]
      clear h0
      clear hf
      have u0 := kept_cell hb v0
      have u1 := kept_cell hb v1
      have u2 := kept_cell hb v2
      have u6 := kept_cell hb v6
      have uo := kept_cell hb o0
      go_wp2
      exact ⟨rfl, rfl, Below.refl _ _, _, rfl, rfl, (fun h => absurd h (by decide))⟩
    · intro vals x hb hf
      simp only [fillS, List.getD_cons_succ, List.getD_cons_zero, Act.put, List.setIfInBounds_toArray, List.set_cons_zero, List.set_cons_succ]
      have h1 : vals 1 = .pointer (some ⟨p, 0, none⟩) := hf.1
      rw [h1]
      clear h1
      clear hf
      have u0 := kept_cell hb v0
      have u1 := kept_cell hb v1
      have u2 := kept_cell hb v2
      have u6 := kept_cell hb v6
      have uo := kept_cell hb o0
      go_wp2
      exact ⟨rfl, rfl, Below.refl _ _, _, rfl, rfl, (fun h => absurd h (by decide))⟩
    · intro vals x hb hf
      simp only [fillS, List.getD_cons_succ, List.getD_cons_zero, Act.put, List.setIfInBounds_toArray, List.set_cons_zero, List.set_cons_succ]
      have h2 : vals 2 = .pointer (some ⟨p, 0, none⟩) := hf.1
      rw [h2]
      clear h2
      clear hf
      have u0 := kept_cell hb v0
      have u1 := kept_cell hb v1
      have u2 := kept_cell hb v2
      have u6 := kept_cell hb v6
      have uo := kept_cell hb o0
      go_wp2
      exact ⟨rfl, rfl, Below.refl _ _, _, rfl, rfl, (fun h => absurd h (by decide))⟩
    · intro vals x hb hf
      simp only [fillS, List.getD_cons_succ, List.getD_cons_zero, Act.put, List.setIfInBounds_toArray, List.set_cons_zero, List.set_cons_succ]
      clear hf
      have u0 := kept_cell hb v0
      have u1 := kept_cell hb v1
      have u2 := kept_cell hb v2
      have u6 := kept_cell hb v6
      have uo := kept_cell hb o0
      go_wp2
      exact ⟨rfl, rfl, Below.refl _ _, _, rfl, rfl, (fun h => absurd h (by decide))⟩
    · intro vals x hb hf
      simp only [fillS, List.getD_cons_succ, List.getD_cons_zero, Act.put, List.setIfInBounds_toArray, List.set_cons_zero, List.set_cons_succ]
      have h4 : vals 4 = .pointer (some ⟨p, 0, none⟩) := hf.1
      rw [h4]
      clear h4
      clear hf
      have u0 := kept_cell hb v0
      have u1 := kept_cell hb v1
      have u2 := kept_cell hb v2
      have u6 := kept_cell hb v6
      have uo := kept_cell hb o0
      go_wp2
      exact ⟨rfl, rfl, Below.refl _ _, _, rfl, rfl, (fun h => absurd h (by decide))⟩
    · intro vals x hb hf
      simp only [fillS, List.getD_cons_succ, List.getD_cons_zero, Act.put, List.setIfInBounds_toArray, List.set_cons_zero, List.set_cons_succ]
      have h5 : vals 5 = .pointer (some ⟨p, 0, none⟩) := hf.1
      rw [h5]
      clear h5
      clear hf
      have u0 := kept_cell hb v0
      have u1 := kept_cell hb v1
      have u2 := kept_cell hb v2
      have u6 := kept_cell hb v6
      have uo := kept_cell hb o0
      go_wp2
      exact ⟨rfl, rfl, Below.refl _ _, _, rfl, rfl, (fun h => absurd h (by decide))⟩
    · intro vals x hb hf
      simp only [fillS, List.getD_cons_succ, List.getD_cons_zero, Act.put, List.setIfInBounds_toArray, List.set_cons_zero, List.set_cons_succ]
      have h6 : vals 6 = .pointer (some ⟨p, 6, none⟩) := hf.1
      rw [h6]
      clear h6
      clear hf
      have u0 := kept_cell hb v0
      have u1 := kept_cell hb v1
      have u2 := kept_cell hb v2
      have u6 := kept_cell hb v6
      have uo := kept_cell hb o0
      go_wp2
      exact ⟨rfl, rfl, Below.refl _ _, _, rfl, rfl, (fun h => absurd h (by decide))⟩
    · intro vals x hb hf
      simp only [fillS, List.getD_cons_succ, List.getD_cons_zero, Act.put, List.setIfInBounds_toArray, List.set_cons_zero, List.set_cons_succ]
      have h3 : vals 3 = bkV (.slice (some ⟨fb, fo, none⟩) b.first.length fc) (.slice wa b.flows.length wc) (.slice ra b.reads.length rc) := hf.1
      rw [h3]
      clear h3
      have h7 : vals 7 = .int .i64 z := hf.2.1
      rw [h7]
      clear h7
      clear hf
      have u0 := kept_cell hb v0
      have u1 := kept_cell hb v1
      have u2 := kept_cell hb v2
      have u6 := kept_cell hb v6
      have uo := kept_cell hb o0
      go_wp2_with (go_at_call 80; (with_reducible refine Calls.mono (kR.out x hb) ?_); rintro e y ⟨rfl, hG, hB⟩)
      exact ⟨rfl, rfl, hB, _, rfl, ⟨_, rfl, by show X1.heap.size ≤ x.heap.size + 1; have := hb.size; omega, hG.from hb.size⟩, (fun h => absurd h (by decide))⟩
    · intro vals x hb hf
      simp only [fillS, List.getD_cons_succ, List.getD_cons_zero, Act.put, List.setIfInBounds_toArray, List.set_cons_zero, List.set_cons_succ]
      clear hf
      go_wp2
      exact ⟨rfl, rfl, (Below.refl _ _).alloc (Nat.le_refl _) _, _, rfl, ⟨_, rfl, hb.size, World.alloc_heap_new _ _⟩, fun _ => rfl⟩
  intro vals x hb hf hp
  have hrange : List.range 10 = [0, 1, 2, 3, 4, 5, 6, 7, 8, 9] := by rfl
  rw [hrange]
  simp only [fillS, List.getD_cons_succ, List.getD_cons_zero, Act.put, List.setIfInBounds_toArray, List.set_cons_zero, List.set_cons_succ]
  have h0 : vals 0 = .pointer (some ⟨p, 0, none⟩) := hf 0 (by omega)
  have h1 : vals 1 = .pointer (some ⟨p, 0, none⟩) := hf 1 (by omega)
  have h2 : vals 2 = .pointer (some ⟨p, 0, none⟩) := hf 2 (by omega)
  have h3 : vals 3 = bkV (.slice (some ⟨fb, fo, none⟩) b.first.length fc) (.slice wa b.flows.length wc) (.slice ra b.reads.length rc) := hf 3 (by omega)
  have h4 : vals 4 = .pointer (some ⟨p, 0, none⟩) := hf 4 (by omega)
  have h5 : vals 5 = .pointer (some ⟨p, 0, none⟩) := hf 5 (by omega)
  have h6 : vals 6 = .pointer (some ⟨p, 6, none⟩) := hf 6 (by omega)
  have h7 : vals 7 = .int .i64 z := hf 7 (by omega)
  have f8 : (GrpIs X1.heap.size (fun d => b.readsAt z d)) (vals 8) x := hf 8 (by omega)
  obtain ⟨blk3, hv3, l3, A3⟩ : NewAt X1.heap.size #[.map none] 144 (vals 9) x := hf 9 (by omega)
  rw [h0, h1, h2, h3, h4, h5, h6, h7, hv3]
  clear h0 h1 h2 h3 h4 h5 h6 h7 hv3 hf hp hrange
  have p3_0 := rc1 A3
  have g3_0 := rf1 A3
  simp only [List.drop_succ_cons, List.drop_zero]
  obtain ⟨M, hM, hBM, hG⟩ := f8
  rw [hM]
  have kx := @kept_cell X1 x hb
  replace v0 := kx v0
  replace v1 := kx v1
  replace v2 := kx v2
  replace v6 := kx v6
  replace o0 := kx o0
  go_wp2
  refine OnlyN.mk ?_
  have h2 : ∀ n o, n ≠ blk3 → x.heap[n]? = some o → (x.setCell ⟨blk3, 0, none⟩ (.map (some M))).heap[n]? = some o := fun n o hn h => (Below.heap_setCell _ _ _ _ (by simpa using hn)).trans h
  have hpb : p ≠ blk3 := by omega
  have hnb : n1 ≠ blk3 := by omega
  have hqb : q ≠ blk3 := by omega
  have hwb : w.heap.size ≠ blk3 := by omega
  have e3 := set_one A3 0 (.map (some M))
  simp only [List.setIfInBounds_toArray, List.set_cons_zero] at e3
  have hG2 := hG.setc A3 (by decide) 0 (.map (some M))
  have B2 : Below w.heap.size w (x.setCell ⟨blk3, 0, none⟩ (.map (some M))) := (below_tr B1 hb).setCell (p := ⟨blk3, 0, none⟩) (by show _ ≤ blk3; have := B1.size; omega) _
  have ev2 := h2 _ _ hpb (kept_block hb hv0)
  have eb2 := h2 _ _ hwb (kept_block hb e0)
  have en2 := h2 _ _ hnb (kept_block hb en1)
  have eq2 : BlkAt (x.setCell ⟨blk3, 0, none⟩ (.map (some M))) q l := kept_block B2 hq
  have hsz2 : X1.heap.size ≤ x.heap.size := hb.size
  have z3 : blk3 < x.heap.size := (Array.getElem?_eq_some_iff.1 A3).1
  have hs2 : (x.setCell ⟨blk3, 0, none⟩ (.map (some M))).heap.size = x.heap.size := by simp [World.setCell]
  generalize x.setCell ⟨blk3, 0, none⟩ (.map (some M)) = X2 at *
  have hs2' : x.heap.size ≤ X2.heap.size := Nat.le_of_eq hs2.symm
  have zM : M < X2.heap.size := by obtain ⟨L, c, h⟩ := hG2; exact (Array.getElem?_eq_some_iff.1 h.heap).1
  clear hs2
  clear v0 v1 v2 v3 v4 v5 v6 v7 o0 e0 hv0 en1 hG A3 p3_0 g3_0 hb hM h2 y0 y1 kx kR
  obtain ⟨v0, v1, v2, v3, v4, v5, v6, v7⟩ := rc8 ev2
  have o0 := rc1 eb2
  obtain ⟨X, hX⟩ : ∃ X, (X2.alloc (bkO (.slice (some ⟨fb, fo, none⟩) b.first.length fc) (.slice wa b.flows.length wc) (.slice ra b.reads.length rc))).alloc (.cells #[.bool false] 4) = X := ⟨_, rfl⟩
  obtain ⟨ei0, ei1, sX, BX⟩ := two_new hX
  replace ev2 := kept_block BX ev2
  replace eb2 := kept_block BX eb2
  replace en2 := kept_block BX en2
  replace e3 := kept_block BX e3
  have hGX := hG2.mono BX
  have eqX := BlkAt.mono eq2 BX
  have hBX := below_tr B2 BX
  go_wp2
  refine WpAt.seq_k fun K hK => ?_
  go_wp2_with (go_at_call 81; refine (progDays _ _ _ _ _).mono ?_; rintro e w1 ⟨rfl, rfl⟩)
  refine WpAt.block ?_
  clear hX v0 v1 v2 v3 v4 v5 v6 v7 o0
  have hseq := days_yields b.flows.length wc wa false X (fun k => k < X.heap.size ∧ k ≠ q ∧ k ≠ n1) X2.heap.size (X2.heap.size + 1) (by omega) (rc3 ei0).2.1 (rc1 ei1) ⟨by omega, by omega, by omega⟩ ⟨by omega, by omega, by omega⟩
  refine WpAt.rangeG ⟨_, rfl⟩ rfl enter_days1 hseq (fun k h => h.1) (fun _ => rfl)
    (fun pre W => Kept (fun k => k ≠ q ∧ k ≠ n1) X W ∧ W.heap[n1]? = some (spO (b.fwd g z pre.length)) ∧ BlkAt W q (b.part g z l pre.length) ∧ b.okTo g z pre.length = true) (fun _ _ => False) (fun c W => b.zoneB g z = false ∧ c = [{ v := noneV z, recovered := false }] ∧ Kept (fun k => k ≠ q ∧ k ≠ n1) X W) ?hI ?hIx ?h0 ?hround ?hdone ?hpanic ?hstop
  case hI =>
    rintro pre Y Z ⟨h1, h2, h3, h4⟩ hk
    exact ⟨⟨hk.os.trans h1.os, hk.tape.trans h1.tape, hk.output.trans h1.output, Nat.le_trans h1.size hk.size, fun i hi hs => (hk.block i (by have := h1.size; omega) (by omega)).trans (h1.block i hi hs)⟩, (hk.block _ (Array.getElem?_eq_some_iff.1 h2).1 (by omega)).trans h2, h3.kept hk (by omega), h4⟩
  case hIx => exact fun _ _ _ h _ => h
  case h0 => exact ⟨Kept.refl _ _, en2, eqX, rfl⟩
  case hstop => exact fun _ _ _ _ h => h.elim
  case hpanic =>
    rintro D ch W hD ⟨hno, rfl, hkI⟩ hk hd
    refine leaves_one (by simp) hd ⟨?_, .inr ⟨hno, rfl⟩⟩
    have k1 : Kept (fun k => k ≠ q ∧ k < w.heap.size) w X := .all hBX
    have k2 : Kept (fun k => k ≠ q ∧ k < w.heap.size) w W := k1.trans (hkI.mono fun k _ h => ⟨h.1, by omega⟩)
    exact (k2.putObj (.inr (by omega)) _).mono fun k hk hs => ⟨hs, hk⟩
  case hdone =>
    rintro D W hD ⟨hkI, h2, h3, h4⟩ hk hd
    have hln : (daysTo b.flows.length false b.flows.length).length = b.flows.length := by simp [daysTo]
    rw [hln] at h2 h3 h4
    refine leaves_one (by simp) hd ⟨.tuple #[], by simp [results, Tryz.results60, go_sem], ?_, .inl ⟨h4, rfl, ?_⟩⟩
    · have k1 : Kept (fun k => k ≠ q ∧ k < w.heap.size) w X := .all hBX
      have k2 : Kept (fun k => k ≠ q ∧ k < w.heap.size) w W := k1.trans (hkI.mono fun k _ h => ⟨h.1, by omega⟩)
      exact (k2.putObj (.inr (by omega)) _).mono fun k hk hs => ⟨hs, hk⟩
    · exact (World.putObj_heap_other (by omega)).trans h3
  case hround =>
    rintro lo pre x W hl1 hlt hpre hKS ⟨hkI, hn, hqW, hok⟩
    obtain ⟨-, hxk, hkn⟩ := daysTo_pre hpre
    simp only [dayOf, Bool.false_eq_true, if_false] at hxk
    have hKX := hKS.size
    obtain ⟨k, hpk⟩ : ∃ k, pre.length = k := ⟨_, rfl⟩
    rw [hpk] at hxk hkn hn hqW hok
    subst hxk
    have hlen1 : Hid ((pre ++ [x]).length = x + 1) := Lib.hid (by simp [hpk])
    clear hpk hpre
    gi_wp2
    refine ⟨Kept.refl _ _, ?_⟩
    intro W2 hk2 hs2
    -- what the round sees
    have hkX2 : Kept (fun i => i ≠ q ∧ i ≠ n1) X W2 := ⟨hk2.os.trans hkI.os, hk2.tape.trans hkI.tape, hk2.output.trans hkI.output, by omega, fun i hi hs => (hk2.block i (by omega) (by omega)).trans (hkI.block i hi hs)⟩
    have gn := (hk2.block _ (Array.getElem?_eq_some_iff.1 hn).1 (by omega)).trans hn
    have gq := hqW.kept hk2 (by omega)
    have gv := (hkX2.block _ (Array.getElem?_eq_some_iff.1 ev2).1 ⟨hpq, by omega⟩).trans ev2
    have gb := (hkX2.block _ (Array.getElem?_eq_some_iff.1 eb2).1 ⟨by omega, by omega⟩).trans eb2
    have g3 := (hkX2.block _ (Array.getElem?_eq_some_iff.1 e3).1 ⟨by omega, by omega⟩).trans e3
    have gG := hGX.kept hkX2 ⟨by omega, by omega⟩ fun i hi => ⟨by omega, by omega⟩
    have hW0 : Below W0.heap.size W0 W2 := (h0.trans (hBX.mono h0.size)).trans ⟨hkX2.os, hkX2.tape, hkX2.output, hkX2.size, fun i hi => hkX2.block i (by have := h0.size; have := hBX.size; omega) ⟨by omega, by have := h0.size; omega⟩⟩
    clear hkI hn hqW hk2 hKS
    have o0 := rc1 gb
    have zb2 := (Array.getElem?_eq_some_iff.1 gb).1
    have kC := Lib.hid (progComes p _ _ _ _ b g z x W2 gv (hb.mono hW0) ok hg hz hkn)
    have hfb := fwd_bd ok hg hz x (by omega)
    have hcb := comes_bd ok hg hz hkn
    have hfw : Hid (b.fwd g z (x + 1) = meets (addSp (b.fwd g z x) (b.comes g z x)) (b.readsAt z x)) := rfl
    have hok1 : Hid (b.okTo g z (x + 1) = decide ((b.fwd g z (x + 1)).lo ≤ (b.fwd g z (x + 1)).hi)) := Lib.hid (by simp [Bk.okTo, hok])
    have hpt : Hid (b.part g z l (x + 1) = (b.part g z l x).set x (b.fwd g z (x + 1))) := rfl
    have hpl : Hid ((b.part g z l x).length = b.flows.length) := Lib.hid (by rw [part_len]; exact hl)
    generalize hE : b.fwd g z (x + 1) = s1 at *
    replace hE := Lib.hid hE
    generalize b.fwd g z x = s at *
    generalize b.comes g z x = cm at *
    generalize b.part g z l x = lp at *
    gi_wp2
    refine ⟨trivial, rfl, (CallsIn.inRound _ (callsIn_wide.2 kC.out)).mono ?_⟩
    rintro e W3 ⟨rfl, hB3⟩
    clear kC o0
    obtain ⟨V, hV⟩ : ∃ V, W3.alloc (spO cm) = V := ⟨_, rfl⟩
    obtain ⟨ec, bV, sV⟩ := boxed hV
    have hBV := below_tr hB3 bV
    have gnV := kept_block hBV gn
    have gqV := BlkAt.mono gq hBV
    have gvV := kept_block hBV gv
    have gbV := kept_block hBV gb
    have g3V := kept_block hBV g3
    obtain ⟨L, cl, hGL⟩ := gG.mono hBV
    have hlk := look_run hGL.heap (x : Int)
    have hown := hGL.own x
    obtain ⟨va, vc, hvv⟩ := hown.slice
    rw [hvv] at hlk
    have kM := Lib.hid (progMeet (addSp s cm) _ (b.readsAt z x) V hown.sps)
    rw [hvv, ← hfw.out] at kM
    obtain ⟨c0, c1⟩ := rc2 ec
    obtain ⟨n0, n1'⟩ := rc2 gnV
    have m0 := rc1 g3V
    have o0 := rc1 gbV
    have zc := (Array.getElem?_eq_some_iff.1 ec).1
    have zn := (Array.getElem?_eq_some_iff.1 gnV).1
    have zm := (Array.getElem?_eq_some_iff.1 g3V).1
    have zo := (Array.getElem?_eq_some_iff.1 gbV).1
    clear sV ec bV hGL hown hvv
    simp only [addSp] at kM
    gi_wp2
    refine ⟨trivial, rfl, (CallsIn.inRound _ (callsIn_wide.2 kM.out)).mono ?_⟩
    rintro e W5 ⟨rfl, hB5⟩
    clear kM c0 c1 n0 n1' m0 o0 zc zn zm zo hlk hfb hcb
    replace hBV := below_tr hBV hB5
    replace gnV := kept_block hB5 gnV
    replace gqV := BlkAt.mono gqV hB5
    replace gvV := kept_block hB5 gvV
    replace gbV := kept_block hB5 gbV
    clear g3V hV
    obtain ⟨n0, n1'⟩ := rc2 gnV
    obtain ⟨u0, u1⟩ := rf2 gnV
    have zn := (Array.getElem?_eq_some_iff.1 gnV).1
    obtain ⟨Y, hY⟩ : ∃ Y, (W5.setCell ⟨n1, 0, none⟩ (.int .i64 s1.lo)).setCell ⟨n1, 1, none⟩ (.int .i64 s1.hi) = Y := ⟨_, rfl⟩
    have yn := set2 gnV (.int .i64 s1.lo) (.int .i64 s1.hi)
    have hYo : ∀ m o, m ≠ n1 → W5.heap[m]? = some o → Y.heap[m]? = some o := fun m o hm h => by rw [← hY]; exact (set2_other _ _ hm).trans h
    have yv := hYo _ _ (by omega) gvV
    have yb := hYo _ _ (by omega) gbV
    have yq : BlkAt Y q lp := hYo _ _ (by omega) gqV
    have hkY : Kept (fun i => i ≠ n1) W2 Y := by
      rw [← hY]
      exact ((Kept.all hBV).setCell (p := ⟨n1, 0, none⟩) (.inl fun h => h rfl) _).setCell (p := ⟨n1, 1, none⟩) (.inl fun h => h rfl) _
    rw [hY] at yn
    obtain ⟨t0, t1⟩ := rc2 yn
    have o0 := rc1 yb
    have zb2 := (Array.getElem?_eq_some_iff.1 yb).1
    by_cases hs1 : s1.lo ≤ s1.hi
    · have kK := Lib.hid (progKeepYes p q _ _ _ g z x cap s1 lp Y (by rw [hpl.out]; exact yv) yq (by rw [hpl.out]; exact hkn) (by rw [hpl.out]; omega) hs1)
      gi_wp2
      refine ⟨trivial, rfl, (CallsIn.inRound _ (callsIn_wide.2 kK.out)).mono ?_⟩
      rintro e W7 ⟨rfl, hk7, hq7⟩
      clear kK
      have hk27 : Kept (fun i => i ≠ n1 ∧ i ≠ q) W2 W7 := (hkY.mono fun i _ h => h.1).trans (hk7.mono fun i _ h => h.2)
      have hn7 := (hk7.block _ (Array.getElem?_eq_some_iff.1 yn).1 (by omega)).trans yn
      gi_wp2
      refine ⟨hk27.mono fun i _ h => by omega, ⟨hkX2.os ▸ hk27.os, hkX2.tape ▸ hk27.tape, hkX2.output ▸ hk27.output, Nat.le_trans hkX2.size hk27.size, fun i hi hs => (hk27.block i (by have := hkX2.size; omega) ⟨hs.2, hs.1⟩).trans (hkX2.block i hi hs)⟩, ?_, ?_, ?_⟩
      · rw [hlen1.out, hE.out]; exact hn7
      · rw [hlen1.out, hpt.out]; exact hq7
      · rw [hlen1.out, hok1.out]; exact decide_eq_true hs1
    · have kK := Lib.hid (progKeepNo p _ _ _ _ g z x s1 Y yv (by omega))
      have hno : Hid (b.zoneB g z = false) := Lib.hid (okTo_no (k := x + 1) (by rw [hok1.out]; simp; omega) _ (by omega))
      gi_wp2
      refine ⟨trivial, rfl, (CallsIn.inRound _ (callsIn_wide.2 kK.out)).mono ?_⟩
      rintro e W7 ⟨rfl, hB7⟩
      clear kK
      have hk27 : Kept (fun i => i ≠ n1 ∧ i ≠ q) W2 W7 := (hkY.mono fun i _ h => h.1).trans (Kept.all hB7)
      refine ⟨rfl, hk27.mono fun i _ h => by omega, hno.out, rfl, ?_⟩
      exact ⟨hkX2.os ▸ hk27.os, hkX2.tape ▸ hk27.tape, hkX2.output ▸ hk27.output, Nat.le_trans hkX2.size hk27.size, fun i hi hs => (hk27.block i (by have := hkX2.size; omega) ⟨hs.2, hs.1⟩).trans (hkX2.block i hi hs)⟩
end Go.Proofs.YthbkcoijafehgaaGreat.L
