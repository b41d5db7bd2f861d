/- Laws and walks: GBox, GCor. -/
import Derived.Shelf.Abstract
import Derived.Shelf.RegionOpen
import Derived.OwnWalkIn
import Derived.TacticsInMore
import Derived.LoopNIn
import Derived.LoopIn
import Derived.Test.YthjmdagonfeneaaGreatK06
set_option maxRecDepth 100000
set_option maxHeartbeats 16000000
set_option linter.unusedVariables false
set_option linter.unusedSimpArgs false
namespace Gas
def boxOf (l : List Pt) : St :=
 ⟨(wideL (l.map (·.g))).1, (wideL (l.map (·.g))).2, (wideL (l.map (·.y))).1, (wideL (l.map (·.y))).2, (wideL (l.map (·.t))).1, (wideL (l.map (·.t))).2, (wideL (l.map (·.w))).1, (wideL (l.map (·.w))).2⟩
end Gas
namespace Go.Proofs.YthjmdagonfeneaaGreat.G
open Go.RowKit Go.Sd Gas
theorem progBoxState {B bb : Nat} {v : Nat → Value} {l : List Pt} (w : World) (hb : BoxV B bb w v l) :
    Calls Tryz.prog 133 #[.pointer (some ⟨bb, 0, none⟩)] w fun e w' => e = .returned (stV (boxOf l)) ∧ Below w.heap.size w w' := by
 have hbbw := (zqo hb.at')
 obtain ⟨W, hW⟩ : ∃ W, w.alloc (.cells #[.int .i64 0, .int .i64 0, .int .i64 0, .int .i64 0, .int .i64 0, .int .i64 0, .int .i64 0, .int .i64 0] 33) = W := ⟨_, rfl⟩
 obtain ⟨eW0, bW0, sW0⟩ := boxed hW
 have hBw : Below w.heap.size w W := bW0
 obtain ⟨zW0, rW0, tW0⟩ := row_cells eW0
 obtain ⟨qW0_0, qW0_1, qW0_2, qW0_3, qW0_4, qW0_5, qW0_6, qW0_7⟩ := rc8 eW0
 obtain ⟨fW0_0, fW0_1, fW0_2, fW0_3, fW0_4, fW0_5, fW0_6, fW0_7⟩ := rf8 eW0
 clear rW0 tW0 eW0
 have xW0 : w.heap.size ≤ w.heap.size := by omega
 clear bW0 sW0
 have hbbW : bb < W.heap.size := Nat.lt_of_lt_of_le hbbw hBw.size
 have c := (row_cells ((hBw.block _ hbbw).trans hb.at')).2.1
 have c0 : W.cell? ⟨bb, 0, none⟩ = some (v 0) := c 0
 have c1 : W.cell? ⟨bb, 1, none⟩ = some (v 1) := c 1
 have c2 : W.cell? ⟨bb, 2, none⟩ = some (v 2) := c 2
 have c3 : W.cell? ⟨bb, 3, none⟩ = some (v 3) := c 3
 clear c
 have hO : boxOf l = ⟨(wideL (coord 0 l)).1, (wideL (coord 0 l)).2, (wideL (coord 1 l)).1, (wideL (coord 1 l)).2, (wideL (coord 2 l)).1, (wideL (coord 2 l)).2, (wideL (coord 3 l)).1, (wideL (coord 3 l)).2⟩ := rfl
 have k0 := Lib.hid (fun g : Grow W => progWide (v 0) (coord 0 l) g.x (((hb.own 0 (by decide)).at.mono hBw).mono g.h))
 have k1 := Lib.hid (fun g : Grow W => progWide (v 1) (coord 1 l) g.x (((hb.own 1 (by decide)).at.mono hBw).mono g.h))
 have k2 := Lib.hid (fun g : Grow W => progWide (v 2) (coord 2 l) g.x (((hb.own 2 (by decide)).at.mono hBw).mono g.h))
 have k3 := Lib.hid (fun g : Grow W => progWide (v 3) (coord 3 l) g.x (((hb.own 3 (by decide)).at.mono hBw).mono g.h))
 obtain ⟨v0, e0⟩ : ∃ x, v 0 = x := ⟨_, rfl⟩
 obtain ⟨v1, e1⟩ : ∃ x, v 1 = x := ⟨_, rfl⟩
 obtain ⟨v2, e2⟩ : ∃ x, v 2 = x := ⟨_, rfl⟩
 obtain ⟨v3, e3⟩ : ∃ x, v 3 = x := ⟨_, rfl⟩
 rw [e0] at c0 k0
 rw [e1] at c1 k1
 rw [e2] at c2 k2
 rw [e3] at c3 k3
 clear e0 e1 e2 e3 hb
 replace hO := Lib.hid hO
 generalize wideL (coord 0 l) = s0 at *
 generalize wideL (coord 1 l) = s1 at *
 generalize wideL (coord 2 l) = s2 at *
 generalize wideL (coord 3 l) = s3 at *
 have hg := grow_cell W
 have hf := grow_frozen W
 go_enter Tryz.func133, Tryz.ntmps133
 go_wp2
 refine wp_grow_tail 21 (by kernel_rfl) (by kernel_rfl) ?_
 simp only [List.take_succ_cons, List.take_zero, List.drop_succ_cons, List.drop_zero]
 repeat (go_big_quiet_step ((first | (go_at_call 137; with_reducible exact Calls.grow (k0.out _)) | (go_at_call 137; with_reducible exact Calls.grow (k1.out _)) | (go_at_call 137; with_reducible exact Calls.grow (k2.out _)) | (go_at_call 137; with_reducible exact Calls.grow (k3.out _)))))
 refine wpQuiet_nil ?_
 rintro _ ⟨g, rfl⟩
 go_wp2
 refine bodyPost_ret (v := .agg #[.int .i64 s0.1, .int .i64 s0.2, .int .i64 s1.1, .int .i64 s1.2, .int .i64 s2.1, .int .i64 s2.2, .int .i64 s3.1, .int .i64 s3.2]) (by simp [results, Tryz.results133, go_sem, hg, hf, zW0, qW0_0, fW0_0, qW0_1, fW0_1, qW0_2, fW0_2, qW0_3, fW0_3, qW0_4, fW0_4, qW0_5, fW0_5, qW0_6, fW0_6, qW0_7, fW0_7]) rfl ⟨by rw [hO.out], ?_⟩
 have hfin : Below w.heap.size w g.x := hBw.trans (g.h.mono hBw.size)
 repeat' (first | (with_reducible exact hfin) | (exact Nat.le_refl _) | refine Below.setCell ?_ ?_ _)
end Go.Proofs.YthjmdagonfeneaaGreat.G
set_option linter.unusedVariables false
set_option linter.unusedSimpArgs false
namespace Gas
def bitAt (k i : Nat) : Bool := k / 2 ^ i % 2 == 1
def endOf (a b : Int) (t : Bool) : Int := if t = true then b else a
def cornerAt (s : St) (k : Nat) : Pt := ⟨endOf s.glo s.ghi (bitAt k 0), endOf s.ylo s.yhi (bitAt k 1), endOf s.tlo s.thi (bitAt k 2), endOf s.wlo s.whi (bitAt k 3)⟩
def cornersTo (s : St) (n : Nat) : List Pt := (List.range n).map (cornerAt s)
def corners (s : St) : List Pt := cornersTo s 16
theorem cornersTo_succ (s : St) (n : Nat) : cornersTo s (n + 1) = cornersTo s n ++ [cornerAt s n] := by simp [cornersTo, List.range_succ]
theorem cornersTo_prefix {s : St} {i j : Nat} (h : i ≤ j) : cornersTo s i <+: cornersTo s j := by
 induction j with
 | zero => obtain rfl : i = 0 := by omega
           exact List.prefix_refl _
 | succ j ih =>
  by_cases hi : i = j + 1
  · subst hi; exact List.prefix_refl _
  · rw [cornersTo_succ]; exact (ih (by omega)).trans (List.prefix_append _ _)
end Gas
namespace Go.Proofs.YthjmdagonfeneaaGreat.G
open Go.RowKit Go.Sd Gas
attribute [local go_sem] Oper.semAt_some
theorem and_bit0 (k : Nat) (hk : k < 16) : bits BinOp.and IntKind.i64 ((k : Int)) 1 = if bitAt k 0 = true then 1 else 0 := by
 have : ∀ j : Fin 16, bits BinOp.and IntKind.i64 (((j.val : Nat) : Int)) 1 = if bitAt j.val 0 = true then 1 else 0 := by decide
 exact this ⟨k, hk⟩
theorem progEnd0 (a b : Int) (k : Nat) (hk : k < 16) (w : World) :
    Calls Tryz.prog 136 #[.agg #[.int .i64 a, .int .i64 b], .int .i64 k, .int .i64 0] w fun e w' => e = .returned (.int .i64 (endOf a b (bitAt k 0))) ∧ Below w.heap.size w w' := by
 have hb := and_bit0 k hk
 obtain ⟨W, hW⟩ : ∃ W, w.alloc (.cells #[.int .i64 a, .int .i64 b] 23) = W := ⟨_, rfl⟩
 obtain ⟨eW0, bW0, sW0⟩ := boxed hW
 have hBw : Below w.heap.size w W := bW0
 obtain ⟨zW0, rW0, tW0⟩ := row_cells eW0
 obtain ⟨qW0_0, qW0_1⟩ := rc2 eW0
 clear rW0 tW0 eW0
 have xW0 : w.heap.size ≤ w.heap.size := by omega
 clear bW0 sW0
 cases ht : bitAt k 0
 · rw [ht] at hb
   simp only [Bool.false_eq_true, if_false] at hb
   clear ht
   go_enter Tryz.func136, Tryz.ntmps136
   go_wp2
   go_ret
   exact ⟨rfl, hBw⟩
 · rw [ht] at hb
   simp only [if_true] at hb
   clear ht
   go_enter Tryz.func136, Tryz.ntmps136
   go_wp2
   go_ret
   exact ⟨rfl, hBw⟩
theorem and_bit1 (k : Nat) (hk : k < 16) : bits BinOp.and IntKind.i64 ((k : Int) / 2) 1 = if bitAt k 1 = true then 1 else 0 := by
 have : ∀ j : Fin 16, bits BinOp.and IntKind.i64 (((j.val : Nat) : Int) / 2) 1 = if bitAt j.val 1 = true then 1 else 0 := by decide
 exact this ⟨k, hk⟩
theorem progEnd1 (a b : Int) (k : Nat) (hk : k < 16) (w : World) :
    Calls Tryz.prog 136 #[.agg #[.int .i64 a, .int .i64 b], .int .i64 k, .int .i64 1] w fun e w' => e = .returned (.int .i64 (endOf a b (bitAt k 1))) ∧ Below w.heap.size w w' := by
 have hb := and_bit1 k hk
 obtain ⟨W, hW⟩ : ∃ W, w.alloc (.cells #[.int .i64 a, .int .i64 b] 23) = W := ⟨_, rfl⟩
 obtain ⟨eW0, bW0, sW0⟩ := boxed hW
 have hBw : Below w.heap.size w W := bW0
 obtain ⟨zW0, rW0, tW0⟩ := row_cells eW0
 obtain ⟨qW0_0, qW0_1⟩ := rc2 eW0
 clear rW0 tW0 eW0
 have xW0 : w.heap.size ≤ w.heap.size := by omega
 clear bW0 sW0
 cases ht : bitAt k 1
 · rw [ht] at hb
   simp only [Bool.false_eq_true, if_false] at hb
   clear ht
   go_enter Tryz.func136, Tryz.ntmps136
   go_wp2
   go_ret
   exact ⟨rfl, hBw⟩
 · rw [ht] at hb
   simp only [if_true] at hb
   clear ht
   go_enter Tryz.func136, Tryz.ntmps136
   go_wp2
   go_ret
   exact ⟨rfl, hBw⟩
theorem and_bit2 (k : Nat) (hk : k < 16) : bits BinOp.and IntKind.i64 ((k : Int) / 4) 1 = if bitAt k 2 = true then 1 else 0 := by
 have : ∀ j : Fin 16, bits BinOp.and IntKind.i64 (((j.val : Nat) : Int) / 4) 1 = if bitAt j.val 2 = true then 1 else 0 := by decide
 exact this ⟨k, hk⟩
theorem progEnd2 (a b : Int) (k : Nat) (hk : k < 16) (w : World) :
    Calls Tryz.prog 136 #[.agg #[.int .i64 a, .int .i64 b], .int .i64 k, .int .i64 2] w fun e w' => e = .returned (.int .i64 (endOf a b (bitAt k 2))) ∧ Below w.heap.size w w' := by
 have hb := and_bit2 k hk
 obtain ⟨W, hW⟩ : ∃ W, w.alloc (.cells #[.int .i64 a, .int .i64 b] 23) = W := ⟨_, rfl⟩
 obtain ⟨eW0, bW0, sW0⟩ := boxed hW
 have hBw : Below w.heap.size w W := bW0
 obtain ⟨zW0, rW0, tW0⟩ := row_cells eW0
 obtain ⟨qW0_0, qW0_1⟩ := rc2 eW0
 clear rW0 tW0 eW0
 have xW0 : w.heap.size ≤ w.heap.size := by omega
 clear bW0 sW0
 cases ht : bitAt k 2
 · rw [ht] at hb
   simp only [Bool.false_eq_true, if_false] at hb
   clear ht
   go_enter Tryz.func136, Tryz.ntmps136
   go_wp2
   go_ret
   exact ⟨rfl, hBw⟩
 · rw [ht] at hb
   simp only [if_true] at hb
   clear ht
   go_enter Tryz.func136, Tryz.ntmps136
   go_wp2
   go_ret
   exact ⟨rfl, hBw⟩
theorem and_bit3 (k : Nat) (hk : k < 16) : bits BinOp.and IntKind.i64 ((k : Int) / 8) 1 = if bitAt k 3 = true then 1 else 0 := by
 have : ∀ j : Fin 16, bits BinOp.and IntKind.i64 (((j.val : Nat) : Int) / 8) 1 = if bitAt j.val 3 = true then 1 else 0 := by decide
 exact this ⟨k, hk⟩
theorem progEnd3 (a b : Int) (k : Nat) (hk : k < 16) (w : World) :
    Calls Tryz.prog 136 #[.agg #[.int .i64 a, .int .i64 b], .int .i64 k, .int .i64 3] w fun e w' => e = .returned (.int .i64 (endOf a b (bitAt k 3))) ∧ Below w.heap.size w w' := by
 have hb := and_bit3 k hk
 obtain ⟨W, hW⟩ : ∃ W, w.alloc (.cells #[.int .i64 a, .int .i64 b] 23) = W := ⟨_, rfl⟩
 obtain ⟨eW0, bW0, sW0⟩ := boxed hW
 have hBw : Below w.heap.size w W := bW0
 obtain ⟨zW0, rW0, tW0⟩ := row_cells eW0
 obtain ⟨qW0_0, qW0_1⟩ := rc2 eW0
 clear rW0 tW0 eW0
 have xW0 : w.heap.size ≤ w.heap.size := by omega
 clear bW0 sW0
 cases ht : bitAt k 3
 · rw [ht] at hb
   simp only [Bool.false_eq_true, if_false] at hb
   clear ht
   go_enter Tryz.func136, Tryz.ntmps136
   go_wp2
   go_ret
   exact ⟨rfl, hBw⟩
 · rw [ht] at hb
   simp only [if_true] at hb
   clear ht
   go_enter Tryz.func136, Tryz.ntmps136
   go_wp2
   go_ret
   exact ⟨rfl, hBw⟩
theorem corners_yields (s : St) (w : World) (S : Nat → Prop) (bs : Nat) (cs : ∀ i v, (#[.int .i64 s.glo, .int .i64 s.ghi, .int .i64 s.ylo, .int .i64 s.yhi, .int .i64 s.tlo, .int .i64 s.thi, .int .i64 s.wlo, .int .i64 s.whi] : Array Value)[i]? = some v → w.cell? ⟨bs, i, none⟩ = some v) (hS : S bs) :
    SeqsG Tryz.prog 135 #[.pointer (some ⟨bs, 0, none⟩)] (fun p : Pt => #[ptV p]) (corners s) S w := by
 intro l J Jx Jp W hKW hJ hJx hY h0
 have c0 : W.cell? ⟨bs, 0, none⟩ = some (.int .i64 s.glo) := hKW.cell hS (cs 0 _ rfl)
 have c1 : W.cell? ⟨bs, 1, none⟩ = some (.int .i64 s.ghi) := hKW.cell hS (cs 1 _ rfl)
 have c2 : W.cell? ⟨bs, 2, none⟩ = some (.int .i64 s.ylo) := hKW.cell hS (cs 2 _ rfl)
 have c3 : W.cell? ⟨bs, 3, none⟩ = some (.int .i64 s.yhi) := hKW.cell hS (cs 3 _ rfl)
 have c4 : W.cell? ⟨bs, 4, none⟩ = some (.int .i64 s.tlo) := hKW.cell hS (cs 4 _ rfl)
 have c5 : W.cell? ⟨bs, 5, none⟩ = some (.int .i64 s.thi) := hKW.cell hS (cs 5 _ rfl)
 have c6 : W.cell? ⟨bs, 6, none⟩ = some (.int .i64 s.wlo) := hKW.cell hS (cs 6 _ rfl)
 have c7 : W.cell? ⟨bs, 7, none⟩ = some (.int .i64 s.whi) := hKW.cell hS (cs 7 _ rfl)
 have hbs := World.block_lt_of_cell? W ⟨bs, 0, none⟩ c0
 simp only at hbs
 refine callsIn_wide.2 ?_
 go_enter Tryz.func135, Tryz.ntmps135
 go_wp2
 refine (wpIn_wide (n := 0)).1 ?_
 gi_loopw [4, 5] (fun _ i wr => ∃ k : Nat, k ≤ 16 ∧ i = .int .i64 k ∧ Hid (Kept S w wr ∧ J (cornersTo s k) wr)) (fun _ i _ => (16 - intOf i).toNat)
 case atStart => exact ⟨0, by omega, by go_num, hKW, h0⟩
 case round =>
  obtain ⟨k, hk, rfl, hH⟩ := hrel
  have d0 : wr.cell? ⟨bs, 0, none⟩ = some (.int .i64 s.glo) := hH.out.1.cell hS (cs 0 _ rfl)
  have d1 : wr.cell? ⟨bs, 1, none⟩ = some (.int .i64 s.ghi) := hH.out.1.cell hS (cs 1 _ rfl)
  have d2 : wr.cell? ⟨bs, 2, none⟩ = some (.int .i64 s.ylo) := hH.out.1.cell hS (cs 2 _ rfl)
  have d3 : wr.cell? ⟨bs, 3, none⟩ = some (.int .i64 s.yhi) := hH.out.1.cell hS (cs 3 _ rfl)
  have d4 : wr.cell? ⟨bs, 4, none⟩ = some (.int .i64 s.tlo) := hH.out.1.cell hS (cs 4 _ rfl)
  have d5 : wr.cell? ⟨bs, 5, none⟩ = some (.int .i64 s.thi) := hH.out.1.cell hS (cs 5 _ rfl)
  have d6 : wr.cell? ⟨bs, 6, none⟩ = some (.int .i64 s.wlo) := hH.out.1.cell hS (cs 6 _ rfl)
  have d7 : wr.cell? ⟨bs, 7, none⟩ = some (.int .i64 s.whi) := hH.out.1.cell hS (cs 7 _ rfl)
  have hbr := World.block_lt_of_cell? wr ⟨bs, 0, none⟩ d0
  simp only at hbr
  have hg := grow_cell wr
  by_cases hlt : k < 16
  · have hki : (k : Int) < 16 := by omega
    have e0 := Lib.hid (fun g : Grow wr => progEnd0 s.glo s.ghi k hlt g.x)
    have e1 := Lib.hid (fun g : Grow wr => progEnd1 s.ylo s.yhi k hlt g.x)
    have e2 := Lib.hid (fun g : Grow wr => progEnd2 s.tlo s.thi k hlt g.x)
    have e3 := Lib.hid (fun g : Grow wr => progEnd3 s.wlo s.whi k hlt g.x)
    gi_wp2
    refine fence_grow_tail (.inl rfl) 22 (by kernel_rfl) (by kernel_rfl) (by kernel_rfl) ?_
    simp only [List.take_succ_cons, List.take_zero, List.drop_succ_cons, List.drop_zero]
    repeat (go_big_quiet_step (first | (go_at_call 136; with_reducible exact Calls.grow (e0.out _)) | (go_at_call 136; with_reducible exact Calls.grow (e1.out _)) | (go_at_call 136; with_reducible exact Calls.grow (e2.out _)) | (go_at_call 136; with_reducible exact Calls.grow (e3.out _))))
    refine wpQuiet_nil ?_
    rintro _ ⟨g, rfl⟩
    have hK3 : Kept S w g.x := hH.out.1.trans (.all g.h)
    have hJ3 : J (cornersTo s k) g.x := hJ _ _ _ hH.out.2 g.h
    have hpre : cornersTo s k ++ [cornerAt s k] <+: corners s := by rw [← cornersTo_succ]; exact cornersTo_prefix (by omega)
    obtain ⟨fn, tmps, assign, body, hy0, hR⟩ := hY _ _ g.x hpre hK3 hJ3
    have hy : (Instr.yield l #[.agg #[.int .i64 (endOf s.glo s.ghi (bitAt k 0)), .int .i64 (endOf s.ylo s.yhi (bitAt k 1)), .int .i64 (endOf s.tlo s.thi (bitAt k 2)), .int .i64 (endOf s.wlo s.whi (bitAt k 3))]]).run Tryz.prog g.x = .ok (.round l fn tmps assign body) g.x := hy0
    clear hy0 e0 e1 e2 e3 hg d0 d1 d2 d3 d4 d5 d6 d7
    gi_wp2
    refine ⟨rfl, hR.mono ?_⟩
    clear hy hR
    rintro e W3 (⟨rfl, hJ4, hk4⟩ | ⟨rfl, hJx4⟩ | ⟨c, rfl, hJp⟩)
    · have hK4 : Kept S w W3 := hK3.trans hk4
      gi_wp2
      exact ⟨⟨k + 1, by omega, by go_num, hK4, by rw [cornersTo_succ]; exact hJ4⟩, by simp [intOf]; omega⟩
    · gi_wp2
      exact bodyPost_ret (results_none rfl _ _ _) rfl (.inl ⟨⟨_, rfl⟩, .inr hJx4⟩)
    · exact ⟨rfl, .inr ⟨c, rfl, hJp⟩⟩
  · obtain rfl : k = 16 := by omega
    gi_wp2
    go_end0
    exact .inl ⟨⟨_, rfl⟩, .inl hH.out.2⟩
end Go.Proofs.YthjmdagonfeneaaGreat.G
