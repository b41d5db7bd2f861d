/- Walks: all pairs of what is known of a zone, one after the other (an iterator). -/
import Derived.Test.YtddmfkhmhdddeaaAll
set_option linter.unusedVariables false
set_option linter.unusedSimpArgs false
namespace Lk
def ordP (l : List Kn) (k i : Nat) : Kn × Kn := if (knAt l i).day < (knAt l k).day then (knAt l i, knAt l k) else (knAt l k, knAt l i)
/-- The pairs of the first i of them, and k of the next one. -/
def pairsTo (l : List Kn) (i k : Nat) : List (Kn × Kn) := ((List.range i).flatMap fun j => (List.range j).map fun m => ordP l m j) ++ (List.range k).map fun m => ordP l m i
def pairsOf (l : List Kn) : List (Kn × Kn) := pairsTo l l.length 0
theorem pairsTo_succ (l : List Kn) (i k : Nat) : pairsTo l i (k + 1) = pairsTo l i k ++ [ordP l k i] := by simp [pairsTo, List.range_succ]
theorem pairsTo_next (l : List Kn) (i : Nat) : pairsTo l (i + 1) 0 = pairsTo l i i := by simp [pairsTo, List.range_succ]
theorem pairsTo_mono (l : List Kn) {i k m : Nat} (h : k ≤ m) : pairsTo l i k <+: pairsTo l i m := by
  induction m with
  | zero => obtain rfl : k = 0 := by omega
            exact List.prefix_refl _
  | succ m ih =>
    by_cases hk : k = m + 1
    · subst hk; exact List.prefix_refl _
    · rw [pairsTo_succ]; exact (ih (by omega)).trans (List.prefix_append _ _)
theorem pairsTo_up (l : List Kn) {i n : Nat} (h : i ≤ n) : pairsTo l i 0 <+: pairsTo l n 0 := by
  induction n with
  | zero => obtain rfl : i = 0 := by omega
            exact List.prefix_refl _
  | succ n ih =>
    by_cases hk : i = n + 1
    · subst hk; exact List.prefix_refl _
    · rw [pairsTo_next]; exact (ih (by omega)).trans (pairsTo_mono l (by omega))
theorem pairsTo_pre (l : List Kn) {i k : Nat} (hk : k < i) (hi : i < l.length) : pairsTo l i k ++ [ordP l k i] <+: pairsOf l := by
  rw [← pairsTo_succ]
  have h1 := pairsTo_mono l (i := i) (show k + 1 ≤ i by omega)
  have h2 : pairsTo l (i + 1) 0 <+: pairsTo l l.length 0 := pairsTo_up l (by omega)
  rw [pairsTo_next] at h2
  exact h1.trans h2
theorem ordP_mem {l : List Kn} {k i : Nat} (hk : k < l.length) (hi : i < l.length) : (ordP l k i).1 ∈ l ∧ (ordP l k i).2 ∈ l := by
  have e1 : knAt l k ∈ l := by simp [knAt, hk]
  have e2 : knAt l i ∈ l := by simp [knAt, hi]
  unfold ordP; split
  · exact ⟨e2, e1⟩
  · exact ⟨e1, e2⟩
theorem ordP_day (l : List Kn) (k i : Nat) : (ordP l k i).1.day ≤ (ordP l k i).2.day := by
  unfold ordP; split <;> simp only <;> omega
theorem allK_len {b : Bk} {z : Nat} : (b.allK z).length ≤ b.reads.length + 1 := by rw [← allTo_all]; exact allTo_len
end Lk
namespace Go.Proofs.Ytddmfkhmhdddeaa
open Go.RowKit Go.Sd Lk
attribute [local go_sem] Oper.semAt_some

theorem progPairs (fv wv rv : Value) (z : Nat) (w : World) :
    Calls Try.prog 90 #[bkV fv wv rv, .int .i64 z] w fun e w' =>
      e = .returned (.func (.func 103) #[] #[.pointer (some ⟨w.heap.size, 0, none⟩), .pointer (some ⟨w.heap.size + 1, 0, none⟩)]) ∧
      w' = (w.alloc (bkO fv wv rv)).alloc (.cells #[.int .i64 z] 3) := by
  go_enter Try.func90, Try.ntmps90
  go_wp2
  go_ret
  exact ⟨rfl, rfl⟩
theorem enter_pairs1 : ∀ (args : Array Value) (w : World), (callFunc 103 args).run Try.prog w = .ok (.enter 103 args) w := fun _ _ => by kernel_rfl

theorem set3 {w : World} {n : Nat} {a b c : Value} {e : TypeId} (h : w.heap[n]? = some (.cells #[a, b, c] e)) (a' b' c' : Value) :
    (((w.setCell ⟨n, 0, none⟩ a').setCell ⟨n, 1, none⟩ b').setCell ⟨n, 2, none⟩ c').heap[n]? = some (.cells #[a', b', c'] e) := by
  simp only [World.setCell, Array.getElem?_modify, if_true, h]
  rfl
theorem set3_other {w : World} {n m : Nat} (a' b' c' : Value) (h : m ≠ n) : (((w.setCell ⟨n, 0, none⟩ a').setCell ⟨n, 1, none⟩ b').setCell ⟨n, 2, none⟩ c').heap[m]? = w.heap[m]? := by
  rw [Below.heap_setCell _ _ _ _ h, Below.heap_setCell _ _ _ _ h, Below.heap_setCell _ _ _ _ h]
theorem below_set3 {B : Nat} {w : World} {n : Nat} (a' b' c' : Value) (h : B ≤ n) : Below B w (((w.setCell ⟨n, 0, none⟩ a').setCell ⟨n, 1, none⟩ b').setCell ⟨n, 2, none⟩ c') :=
  (((Below.refl B w).setCell (p := ⟨n, 0, none⟩) h a').setCell (p := ⟨n, 1, none⟩) h b').setCell (p := ⟨n, 2, none⟩) h c'

set_option maxRecDepth 100000 in
set_option maxHeartbeats 4000000 in
theorem pairs_yields (fv wv rv : Value) (b : Bk) (z : Nat) (w : World) (S : Nat → Prop) (bb bz : Nat) (ok : Ok b) (hz : z < b.first.length)
    (e0 : w.heap[bb]? = some (bkO fv wv rv)) (e1 : w.heap[bz]? = some (.cells #[.int .i64 z] 3)) (hS0 : S bb) (hS1 : S bz) (hbk : ∀ W, Kept S w W → BookAt W fv wv rv b) :
    SeqsP Try.prog 103 #[.pointer (some ⟨bb, 0, none⟩), .pointer (some ⟨bz, 0, none⟩)] (fun p : Kn × Kn => #[knV p.1, knV p.2]) (pairsOf (b.allK z)) S w := by
  intro l J Jx Jp W hKW hJ hJx hY h0
  have f0 := (hKW.block _ (Array.getElem?_eq_some_iff.1 e0).1 hS0).trans e0
  have f1 := (hKW.block _ (Array.getElem?_eq_some_iff.1 e1).1 hS1).trans e1
  obtain ⟨q0, q1, q2⟩ := rc3 f0
  have p0 := rc1 f1
  have z0 := (Array.getElem?_eq_some_iff.1 f0).1
  have z1 := (Array.getElem?_eq_some_iff.1 f1).1
  have hbW := hbk W hKW
  have kA := Lib.hid (progAll fv wv rv b z W hbW ok hz)
  obtain ⟨fa, fc, rfl, hfm, -⟩ := hbW.first.form
  obtain ⟨wa, wc, rfl, hwm, -⟩ := hbW.flows.form
  obtain ⟨ra, rc, rfl, hrm, -⟩ := hbW.reads.form
  have hn : (b.allK z).length ≤ 1000 := Nat.le_trans allK_len (by have := ok.nr; omega)
  generalize b.allK z = L at *
  have hY' := Lib.hid hY
  have hJ' := Lib.hid hJ
  clear hbW hbk f0 f1 e0 e1 hY hJ
  refine callsIn_wide.2 ?_
  go_enter Try.func103, Try.ntmps103
  go_wp2_with (go_at_call 104; (with_reducible refine Calls.mono kA.out ?_); rintro e w1 ⟨⟨a, cap, rfl, hO⟩, hB1⟩)
  have hKw1 : Kept S w w1 := hKW.trans (Kept.all hB1)
  have hJ1 := hJ'.out _ _ _ h0 hB1
  have hO1 := hO
  clear q0 q1 q2 p0 z0 z1 kA hO
  refine (wpIn_wide (n := 0)).1 ?_
  gi_loopw [14] (fun i wr => ∃ k : Nat, k ≤ L.length ∧ i = .int .i64 k ∧ Hid (Kept S w wr ∧ W.heap.size ≤ wr.heap.size ∧ OwnKns W.heap.size wr (.slice a L.length cap) L ∧ J (pairsTo L k 0) wr)) (fun i _ => (L.length - intOf i).toNat)
  case atStart => exact ⟨0, by omega, by go_num, hKw1, hB1.size, hO1, hJ1⟩
  case round =>
    obtain ⟨k, hk, rfl, hH⟩ := hrel
    clear hO1 hJ1 hKw1 hB1 h0
    by_cases hlt : k < L.length
    · have hki : (k : Int) < (L.length : Int) := by omega
      gi_wp2
      gi_loopw [18] (fun i wr => ∃ j : Nat, j ≤ k ∧ i = .int .i64 j ∧ Hid (Kept S w wr ∧ W.heap.size ≤ wr.heap.size ∧ OwnKns W.heap.size wr (.slice a L.length cap) L ∧ J (pairsTo L k j) wr)) (fun i _ => (k - intOf i).toNat)
      case atStart => exact ⟨0, by omega, by go_num, hH.out⟩
      case round =>
        obtain ⟨j, hj, rfl, hH2⟩ := hrel
        obtain ⟨hK2, hs2, hO2, hJ2⟩ := hH2.out
        by_cases hjk : j < k
        · have hji : (j : Int) < (k : Int) := by omega
          have hjl : (j : Int) < (L.length : Int) := by omega
          obtain ⟨a', cap', hv, -, hc⟩ := hO2.cells knEnc_len ⟨0, ⟨0, 0⟩⟩
          obtain ⟨rfl, rfl⟩ : a = a' ∧ cap = cap' := by simpa using hv
          obtain ⟨lb, rfl, hlb, hcc⟩ := hc (by omega)
          have x0 : wr.cell? ⟨lb, j * 3, none⟩ = some (.int .i64 (knAt L j).day) := hcc j 0 (by omega) (by omega)
          have x1 : wr.cell? ⟨lb, j * 3 + 1, none⟩ = some (.int .i64 (knAt L j).v.lo) := hcc j 1 (by omega) (by omega)
          have x2 : wr.cell? ⟨lb, j * 3 + 2, none⟩ = some (.int .i64 (knAt L j).v.hi) := hcc j 2 (by omega) (by omega)
          have y0 : wr.cell? ⟨lb, k * 3, none⟩ = some (.int .i64 (knAt L k).day) := hcc k 0 (by omega) (by omega)
          have y1 : wr.cell? ⟨lb, k * 3 + 1, none⟩ = some (.int .i64 (knAt L k).v.lo) := hcc k 1 (by omega) (by omega)
          have y2 : wr.cell? ⟨lb, k * 3 + 2, none⟩ = some (.int .i64 (knAt L k).v.hi) := hcc k 2 (by omega) (by omega)
          have hpre := Lib.hid (pairsTo_pre L hjk hlt)
          have hsucc := Lib.hid (pairsTo_succ L k j)
          have hord : Hid (ordP L j k = if (knAt L k).day < (knAt L j).day then (knAt L k, knAt L j) else (knAt L j, knAt L k)) := rfl
          clear hc hcc hv hH2 hH
          generalize knAt L j = x at *
          generalize knAt L k = y at *
          replace hO2 := Lib.hid hO2
          gi_wp2
          refine fence_region (.inl rfl) (by kernel_rfl) (by kernel_rfl) (any_region_vars growth_below (va := [⟨8, 7, 129, #[.int .i64 0, .int .i64 0, .int .i64 0], 10, .tmp 24⟩, ⟨9, 8, 129, #[.int .i64 0, .int .i64 0, .int .i64 0], 11, .tmp 28⟩]) (by kernel_rfl) ?_ ?_ (by simp) (fun T f hT hf hcl => ?_))
          · intro p hp w
            simp only [List.mem_cons, List.not_mem_nil, or_false] at hp
            rcases hp with rfl | rfl <;> go_simp
          · intro p hp
            simp only [List.mem_cons, List.not_mem_nil, or_false] at hp
            rcases hp with rfl | rfl <;> kernel_rfl
          have hg : ∀ (g : T) (b o : Nat), b < wr.heap.size → (f g).cell? ⟨b, o, none⟩ = wr.cell? ⟨b, o, none⟩ := fun g => below_cell (hf g)
          simp only [lexOf, List.zipIdx_cons, List.zipIdx_nil, List.map_cons, List.map_nil, isMade, List.any_cons, List.any_nil, Nat.reduceAdd, Nat.reduceBEq, Bool.or_false, Bool.false_or, Bool.or_self, Bool.false_eq_true, if_false, if_true, Nat.zero_add, BEq.rfl, Bool.or_true, Bool.true_or]
          simp only [Go.Sd.blank]
          repeat (go_big_quiet_step (fail))
          refine wpQuiet_nil ?_
          refine ⟨?_, ?_⟩
          · intro p hp
            simp only [List.mem_cons, List.not_mem_nil, or_false] at hp
            rcases hp with rfl | rfl <;> (constructor <;> simp [go_sem, Value.cells, Value.oneCell'])
          intro ns w' hB hv
          have hvb := hv.2.2
          obtain ⟨n1, n2, rfl, hne, ⟨hn1, hl1, hc1, hf1⟩, ⟨hn2, hl2, hc2, hf2⟩⟩ := vars_two hv
          have en1 := (hvb 0 _ n1 rfl rfl).2
          have en2 := (hvb 1 _ n2 rfl rfl).2
          simp [go_sem, Value.cells] at en1 en2
          clear hvb
          refine OnlyN.mk ?_
          clear hv hf hcl hg
          simp only [placeV, Act.put, List.setIfInBounds_toArray, List.set_cons_zero, List.set_cons_succ]
          simp [go_sem] at hc1 hc2
          obtain ⟨V, rfl⟩ : ∃ V, V = w' := ⟨_, rfl⟩
          have hK3 : Kept S w V := hK2.trans (Kept.all hB)
          have hs3 : W.heap.size ≤ V.heap.size := Nat.le_trans hs2 hB.size
          have hO3 := Lib.hid (OwnSt.mono hO2.out hB)
          have hJ3 := hJ'.out _ _ _ hJ2 (hB.mono hs2)
          obtain ⟨c0, c1, c2⟩ := rc3 en1
          obtain ⟨d0, d1, d2⟩ := rc3 en2
          have zn1 := (Array.getElem?_eq_some_iff.1 en1).1
          have zn2 := (Array.getElem?_eq_some_iff.1 en2).1
          have hn1w : W.heap.size ≤ n1 := Nat.le_trans hs2 hn1
          have hn2w : W.heap.size ≤ n2 := Nat.le_trans hs2 hn2
          have hlbn : lb ≠ n1 ∧ lb ≠ n2 := by omega
          clear hc1 hf1 hc2 hf2 hn1 hn2 hl1 hl2 x0 x1 x2 y0 y1 y2 hO2 hJ2 hK2
          by_cases hd : y.day < x.day
          · have ho : Hid (ordP L j k = (y, x)) := Lib.hid (by rw [hord.out, if_pos hd])
            clear hord
            obtain ⟨g0, g1, g2⟩ := rf3 en1
            obtain ⟨k0, k1, k2⟩ := rf3 en2
            obtain ⟨Y, hYe⟩ : ∃ Y, ((V.setCell ⟨n1, 0, none⟩ (.int .i64 y.day)).setCell ⟨n1, 1, none⟩ (.int .i64 y.v.lo)).setCell ⟨n1, 2, none⟩ (.int .i64 y.v.hi) = Y := ⟨_, rfl⟩
            obtain ⟨Z, hZe⟩ : ∃ Z, ((Y.setCell ⟨n2, 0, none⟩ (.int .i64 x.day)).setCell ⟨n2, 1, none⟩ (.int .i64 x.v.lo)).setCell ⟨n2, 2, none⟩ (.int .i64 x.v.hi) = Z := ⟨_, rfl⟩
            have ey1 := set3 en1 (.int .i64 y.day) (.int .i64 y.v.lo) (.int .i64 y.v.hi)
            have ey2 := (set3_other (w := V) (.int .i64 y.day) (.int .i64 y.v.lo) (.int .i64 y.v.hi) (Ne.symm hne)).trans en2
            rw [hYe] at ey1 ey2
            have ez2 := set3 ey2 (.int .i64 x.day) (.int .i64 x.v.lo) (.int .i64 x.v.hi)
            have ez1 := (set3_other (w := Y) (.int .i64 x.day) (.int .i64 x.v.lo) (.int .i64 x.v.hi) hne).trans ey1
            rw [hZe] at ez1 ez2
            have hBY : Below W.heap.size V Y := by rw [← hYe]; exact below_set3 _ _ _ hn1w
            have hBZ : Below W.heap.size V Z := by rw [← hZe]; exact hBY.trans (below_set3 _ _ _ hn2w)
            obtain ⟨i0, i1, i2⟩ := rc3 ey2
            obtain ⟨o0, o1, o2⟩ := rf3 ey2
            have zy2 := (Array.getElem?_eq_some_iff.1 ey2).1
            have hwW := hKW.size
            have hKZ : Kept S w Z := ⟨hBZ.os.trans hK3.os, hBZ.tape.trans hK3.tape, hBZ.output.trans hK3.output, Nat.le_trans hK3.size hBZ.size, fun i hi hs => (hBZ.block i (by omega)).trans (hK3.block i hi hs)⟩
            have hsZ : W.heap.size ≤ Z.heap.size := Nat.le_trans hs3 hBZ.size
            have hOZ : Hid (OwnKns W.heap.size Z (.slice (some ⟨lb, 0, none⟩) L.length cap) L) := Lib.hid (hO3.out.same fun i hi => by
              obtain rfl : lb = i := by simpa [Value.ownBlock] using hi
              rw [← hZe, ← hYe]
              exact (set3_other _ _ _ hlbn.2).trans (set3_other _ _ _ hlbn.1))
            have hJZ := hJ'.out _ _ _ hJ3 hBZ
            obtain ⟨a0, a1, a2⟩ := rc3 ez1
            obtain ⟨b0, b1, b2⟩ := rc3 ez2
            have zz1 := (Array.getElem?_eq_some_iff.1 ez1).1
            have zz2 := (Array.getElem?_eq_some_iff.1 ez2).1
            obtain ⟨fn, tmps, assign, body, hy0, hR⟩ := hY'.out _ _ Z hpre.out hKZ hsZ hJZ
            rw [ho.out] at hy0 hR
            have hy : (Instr.yield l #[.agg #[.int .i64 y.day, .int .i64 y.v.lo, .int .i64 y.v.hi], .agg #[.int .i64 x.day, .int .i64 x.v.lo, .int .i64 x.v.hi]]).run Try.prog Z = .ok (.round l fn tmps assign body) Z := hy0
            clear hy0 hBZ hBY
            gi_wp2
            refine ⟨rfl, hR.mono ?_⟩
            clear hy hR c0 c1 c2 d0 d1 d2 g0 g1 g2 k0 k1 k2 ez1 ez2 ey1 ey2
            rintro e W3 (⟨rfl, hJ4, hk4⟩ | ⟨rfl, hJx4⟩ | ⟨c, rfl, hJp⟩)
            · have hK4 : Kept S w W3 := hKZ.trans (hk4.mono fun i _ h => .inl h)
              have hO4 : OwnKns W.heap.size W3 (.slice (some ⟨lb, 0, none⟩) L.length cap) L := hOZ.out.keptS hk4 fun k h => .inr h
              rw [← ho.out, ← hsucc.out] at hJ4
              have hs4 := Nat.le_trans hsZ hk4.size
              gi_wp2
              exact ⟨⟨j + 1, by omega, by go_num, hK4, hs4, hO4, hJ4⟩, by simp [intOf]; omega⟩
            · gi_wp2
              exact bodyPost_ret (results_none rfl _ _ _) rfl (.inl ⟨⟨_, rfl⟩, .inr hJx4⟩)
            · exact ⟨rfl, .inr ⟨c, rfl, hJp⟩⟩
          · have ho : Hid (ordP L j k = (x, y)) := Lib.hid (by rw [hord.out, if_neg hd])
            have hd2 : decide (y.day < x.day) = false := by simpa using hd
            obtain ⟨fn, tmps, assign, body, hy0, hR⟩ := hY'.out _ _ V hpre.out hK3 hs3 hJ3
            rw [ho.out] at hy0 hR
            have hy : (Instr.yield l #[.agg #[.int .i64 x.day, .int .i64 x.v.lo, .int .i64 x.v.hi], .agg #[.int .i64 y.day, .int .i64 y.v.lo, .int .i64 y.v.hi]]).run Try.prog V = .ok (.round l fn tmps assign body) V := hy0
            clear hy0 hord
            gi_wp2
            refine ⟨rfl, hR.mono ?_⟩
            clear hy hR c0 c1 c2 d0 d1 d2
            rintro e W3 (⟨rfl, hJ4, hk4⟩ | ⟨rfl, hJx4⟩ | ⟨c, rfl, hJp⟩)
            · have hK4 : Kept S w W3 := hK3.trans (hk4.mono fun i _ h => .inl h)
              have hO4 : OwnKns W.heap.size W3 (.slice (some ⟨lb, 0, none⟩) L.length cap) L := hO3.out.keptS hk4 fun k h => .inr h
              rw [← ho.out, ← hsucc.out] at hJ4
              have hs4 := Nat.le_trans hs3 hk4.size
              gi_wp2
              exact ⟨⟨j + 1, by omega, by go_num, hK4, hs4, hO4, hJ4⟩, by simp [intOf]; omega⟩
            · gi_wp2
              exact bodyPost_ret (results_none rfl _ _ _) rfl (.inl ⟨⟨_, rfl⟩, .inr hJx4⟩)
            · exact ⟨rfl, .inr ⟨c, rfl, hJp⟩⟩
        · obtain rfl : j = k := by omega
          rw [← pairsTo_next] at hJ2
          gi_wp2
          exact ⟨⟨j + 1, by omega, by go_num, hK2, hs2, hO2, hJ2⟩, by simp [intOf]; omega⟩
    · obtain rfl : k = L.length := by omega
      have hJf := hH.out.2.2.2
      gi_wp2
      go_end0
      exact .inl ⟨⟨_, rfl⟩, .inl hJf⟩
end Go.Proofs.Ytddmfkhmhdddeaa
