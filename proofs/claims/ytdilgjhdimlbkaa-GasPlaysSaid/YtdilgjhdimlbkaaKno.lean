/- Gas: the law package's known: the rows of the chapter's examples hold. -/
import Derived.Test.YtdilgjhdimlbkaaExc
import Derived.Test.YtdilgjhdimlbkaaPr2
import Derived.Test.YtdilgjhdimlbkaaDo2
import Derived.Test.YtdilgjhdimlbkaaPl3
import Derived.Test.YtdilgjhdimlbkaaGen
import Derived.Test.YtdilgjhdimlbkaaLoc
import Derived.BigRegion
set_option linter.unusedVariables false
set_option linter.unusedSimpArgs false
namespace Go.Proofs.Ytdilgjhdimlbkaa
open Go.RowKit Go.Sd Gas
theorem ex_pres : presF exC exS.low exC.vhi = ⟨236949, 55⟩ ∧ presF exC exS.high exC.vlo = ⟨128867, 25⟩ := ⟨by rfl, by rfl⟩
theorem ex_inj : act exC exS exI = some (⟨2090, 2190, 110, 120, 2995, 3091, 50000, 60000⟩, ⟨0, 0, 0, 0, 0, 0⟩) := by rfl
theorem ex_wdr : act exC exS exW = some (⟨1800, 1900, 90, 100, 3000, 3100, 45000, 54299⟩, ⟨200, 201, 9, 10, 4751, 6000⟩) := by rfl

theorem exPress (w : World) : Calls Try.prog 11 #[cavV exC, stV exS] w fun e w' => e = .returned (.tuple #[.agg #[.int .i64 236949, .int .i64 55], .agg #[.int .i64 128867, .int .i64 25], .int .i64 0]) ∧ Below w.heap.size w w' := by
  have := progPressureOk (c := exC) (s := exS) w (by rfl) (by rfl)
  rw [ex_pres.1, ex_pres.2] at this
  exact this
theorem exInj (w : World) : Calls Try.prog 14 #[cavV exC, stV exS, .agg #[.int .i64 1, .int .i64 exL.g, .int .i64 exL.y, .int .i64 exL.t, .int .i64 exL.w, .int .i64 0, .int .i64 0, .int .i64 0, .int .i64 0, .int .i64 0]] w fun e w' => e = .returned (.tuple #[.agg #[.int .i64 2090, .int .i64 2190, .int .i64 110, .int .i64 120, .int .i64 2995, .int .i64 3091, .int .i64 50000, .int .i64 60000], .agg #[.int .i64 0, .int .i64 0, .int .i64 0, .int .i64 0, .int .i64 0, .int .i64 0], .int .i64 0]) ∧ Below w.heap.size w w' :=
  progDoSome (o := exI) w (by rfl) (by rfl) (by rfl) ex_inj
theorem exWdr (w : World) : Calls Try.prog 14 #[cavV exC, stV exS, .agg #[.int .i64 2, .int .i64 0, .int .i64 0, .int .i64 0, .int .i64 0, .int .i64 210, .int .i64 0, .int .i64 0, .int .i64 0, .int .i64 0]] w fun e w' => e = .returned (.tuple #[.agg #[.int .i64 1800, .int .i64 1900, .int .i64 90, .int .i64 100, .int .i64 3000, .int .i64 3100, .int .i64 45000, .int .i64 54299], .agg #[.int .i64 200, .int .i64 201, .int .i64 9, .int .i64 10, .int .i64 4751, .int .i64 6000], .int .i64 0]) ∧ Below w.heap.size w w' :=
  progDoSome (o := exW) w (by rfl) (by rfl) (by rfl) ex_wdr
theorem ex_err : playErr exC exP [exI, exR, exV] [0, 150, 0] [0, 15, 0] = 0 := by rfl
theorem ex_play : play exC exP [exI, exR, exV] [0, 150, 0] [0, 15, 0] = some (⟨1881, 99, 3025, 45014⟩, ⟨209, 11, 0, 5001⟩) := by rfl
theorem exPlay {lv av bv : Value} (w : World) (hl : OpsAt w lv [exI, exR, exV]) (ha : IntsAt w av [0, 150, 0]) (hb : IntsAt w bv [0, 15, 0]) :
    Calls Try.prog 5 #[cavV exC, .agg #[.int .i64 2000, .int .i64 100, .int .i64 3000, .int .i64 50000], lv, av, bv] w fun e w' => e = .returned (.tuple #[.agg #[.int .i64 1881, .int .i64 99, .int .i64 3025, .int .i64 45014], .agg #[.int .i64 209, .int .i64 11, .int .i64 0, .int .i64 5001], .int .i64 0]) ∧ Below w.heap.size w w' :=
  progPlaySome (p := exP) w hl ha hb ex_err ex_play

theorem opsAt3 {w : World} {t : TypeId} {x y z : Gas.Op} {W : World} (h : w.alloc (.cells #[.int .i64 x.kind, .int .i64 x.lg, .int .i64 x.ly, .int .i64 x.lt, .int .i64 x.lw, .int .i64 x.moles, .int .i64 x.slo, .int .i64 x.shi, .int .i64 x.wlo, .int .i64 x.whi, .int .i64 y.kind, .int .i64 y.lg, .int .i64 y.ly, .int .i64 y.lt, .int .i64 y.lw, .int .i64 y.moles, .int .i64 y.slo, .int .i64 y.shi, .int .i64 y.wlo, .int .i64 y.whi, .int .i64 z.kind, .int .i64 z.lg, .int .i64 z.ly, .int .i64 z.lt, .int .i64 z.lw, .int .i64 z.moles, .int .i64 z.slo, .int .i64 z.shi, .int .i64 z.wlo, .int .i64 z.whi] t) = W) : OpsAt W (.slice (some ⟨w.heap.size, 0, none⟩) 3 3) [x, y, z] := by
  obtain ⟨e, b, s⟩ := boxed h
  refine ⟨_, 3, rfl, (by simp [maxLen]), fun _ => ⟨w.heap.size, 0, rfl, by omega, fun k hk => ?_⟩⟩
  have hk : k < 3 := hk
  have r := (row_cells e).2.1
  match k, hk with
  | 0, _ => exact ⟨r 0, r 1, r 2, r 3, r 4, r 5, r 6, r 7, r 8, r 9⟩
  | 1, _ => exact ⟨r 10, r 11, r 12, r 13, r 14, r 15, r 16, r 17, r 18, r 19⟩
  | 2, _ => exact ⟨r 20, r 21, r 22, r 23, r 24, r 25, r 26, r 27, r 28, r 29⟩
theorem opsAt1 {w : World} {t : TypeId} {x : Gas.Op} {W : World} (h : w.alloc (.cells #[.int .i64 x.kind, .int .i64 x.lg, .int .i64 x.ly, .int .i64 x.lt, .int .i64 x.lw, .int .i64 x.moles, .int .i64 x.slo, .int .i64 x.shi, .int .i64 x.wlo, .int .i64 x.whi] t) = W) : OpsAt W (.slice (some ⟨w.heap.size, 0, none⟩) 1 1) [x] := by
  obtain ⟨e, b, s⟩ := boxed h
  refine ⟨_, 1, rfl, (by simp [maxLen]), fun _ => ⟨w.heap.size, 0, rfl, by omega, fun k hk => ?_⟩⟩
  have hk : k < 1 := hk
  have r := (row_cells e).2.1
  match k, hk with
  | 0, _ => exact ⟨r 0, r 1, r 2, r 3, r 4, r 5, r 6, r 7, r 8, r 9⟩
theorem intsAt3 {w : World} {t : TypeId} {x y z : Int} {W : World} (h : w.alloc (.cells #[.int .i64 x, .int .i64 y, .int .i64 z] t) = W) : IntsAt W (.slice (some ⟨w.heap.size, 0, none⟩) 3 3) [x, y, z] := by
  obtain ⟨e, b, s⟩ := boxed h
  refine ⟨_, 3, rfl, (by simp [maxLen]), fun _ => ⟨w.heap.size, 0, rfl, by omega, fun k hk => ?_⟩⟩
  have hk : k < 3 := hk
  have r := (row_cells e).2.1
  match k, hk with
  | 0, _ => exact r 0
  | 1, _ => exact r 1
  | 2, _ => exact r 2
theorem intsAt1 {w : World} {t : TypeId} {x : Int} {W : World} (h : w.alloc (.cells #[.int .i64 x] t) = W) : IntsAt W (.slice (some ⟨w.heap.size, 0, none⟩) 1 1) [x] := by
  obtain ⟨e, b, s⟩ := boxed h
  refine ⟨_, 1, rfl, (by simp [maxLen]), fun _ => ⟨w.heap.size, 0, rfl, by omega, fun k hk => ?_⟩⟩
  have hk : k < 1 := hk
  have r := (row_cells e).2.1
  match k, hk with
  | 0, _ => exact r 0

/-- What the operations of region 5 yield. -/
def knR (L : Nat) : Nat → Value → World → Prop
  | 0, v, _ => v = cavV exC
  | 1, v, _ => v = .agg #[.int .i64 2000, .int .i64 100, .int .i64 3000, .int .i64 50000]
  | 2, v, _ => v = ptV exL
  | 3, v, _ => v = .agg #[.int .i64 1, .int .i64 exL.g, .int .i64 exL.y, .int .i64 exL.t, .int .i64 exL.w, .int .i64 0, .int .i64 0, .int .i64 0, .int .i64 0, .int .i64 0]
  | 4, v, _ => v = .agg #[.int .i64 3, .int .i64 0, .int .i64 0, .int .i64 0, .int .i64 0, .int .i64 0, .int .i64 100, .int .i64 200, .int .i64 10, .int .i64 20]
  | 5, v, _ => v = .agg #[.int .i64 2, .int .i64 0, .int .i64 0, .int .i64 0, .int .i64 0, .int .i64 220, .int .i64 0, .int .i64 0, .int .i64 0, .int .i64 0]
  | 6, v, w => OpsAt w v [exI, exR, exV]
  | 7, v, w => IntsAt w v [0, 150, 0]
  | 8, v, w => IntsAt w v [0, 15, 0]
  | 9, v, _ => v = .tuple #[.agg #[.int .i64 1881, .int .i64 99, .int .i64 3025, .int .i64 45014], .agg #[.int .i64 209, .int .i64 11, .int .i64 0, .int .i64 5001], .int .i64 0]
  | 10, v, _ => v = .tuple #[.agg #[.int .i64 1881, .int .i64 99, .int .i64 3025, .int .i64 45014], .agg #[.int .i64 209, .int .i64 11, .int .i64 0, .int .i64 5001], .int .i64 0]
  | 11, v, _ => v = .agg #[.int .i64 1881, .int .i64 99, .int .i64 3025, .int .i64 45014]
  | 12, v, _ => v = .agg #[.int .i64 209, .int .i64 11, .int .i64 0, .int .i64 5001]
  | 13, v, _ => v = .int .i64 0
  | 14, v, w => NewAt L #[.int .i64 0, .int .i64 0, .int .i64 0, .int .i64 0] 28 v w
  | 15, v, w => NewAt L #[.int .i64 0, .int .i64 0, .int .i64 0, .int .i64 0] 28 v w
  | _, _, _ => True
def knN : Nat → Value → World → Prop
  | 14, v, w => NewNow v w
  | 15, v, w => NewNow v w
  | _, _, _ => True
def knD (j : Nat) (v : Value) (k : Nat) (u : Value) : Prop := (j = 14 ∧ k = 15) → v ≠ u
theorem knR_mono (L : Nat) : ∀ j v w w', Below w.heap.size w w' → knR L j v w → knR L j v w' := by
  intro j v w w' hb h
  unfold knR at *
  split at h
  case h_7 => exact h.mono hb
  case h_8 => exact h.mono hb
  case h_9 => exact h.mono hb
  case h_15 => exact h.mono hb
  case h_16 => exact h.mono hb
  all_goals exact h
theorem knD_of (L : Nat) : ∀ j k v u w, j ≠ k → knN j v w → knR L k u w → knD j v k u ∧ knD k u j v := by
  intro j k v u w hne hn hr
  constructor
  · rintro ⟨rfl, rfl⟩
    exact (NewAt.ne hr hn).symm
  · rintro ⟨rfl, rfl⟩
    exact NewAt.ne hr hn
set_option maxRecDepth 100000 in
set_option maxHeartbeats 8000000 in
theorem progKnown (w : World) : Calls Try.prog 4 #[] w fun e w' => e = .returned (.bool true) ∧ Below w.heap.size w w' := by
  have kC1 := Lib.hid lawC; have kS1 := Lib.hid lawS; have kP := Lib.hid exPress
  have kC2 := Lib.hid lawC; have kS2 := Lib.hid lawS; have kL2 := Lib.hid lawLot; have kI := Lib.hid exInj
  have kC3 := Lib.hid lawC; have kS3 := Lib.hid lawS; have kW := Lib.hid exWdr
  go_enter Try.func4, Try.ntmps4
  go_wp2_with (first | (go_at_call 12; (with_reducible refine Calls.mono (kC1.out _) ?_); clear kC1; rintro e w1 ⟨rfl, hB1⟩) | (go_at_call 13; (with_reducible refine Calls.mono (kS1.out _) ?_); clear kS1; rintro e w2 ⟨rfl, hB2⟩) | (go_at_call 11; (with_reducible refine Calls.mono (kP.out _) ?_); clear kP; rintro e w3 ⟨rfl, hB3⟩))
  have hS3 := ((hB1.trans (hB2.mono hB1.size)).trans (hB3.mono (hB1.trans (hB2.mono hB1.size)).size))
  have B3 : Below w.heap.size w w3 := hS3
  obtain ⟨U_a, hU_a⟩ : ∃ U, w3.alloc (.cells #[.int .i64 236949, .int .i64 55] 43) = U := ⟨_, rfl⟩
  obtain ⟨e_a, b_a, s_a⟩ := boxed hU_a
  have B_U_a : Below w.heap.size w U_a := B3.trans (b_a.mono B3.size)
  rw [hU_a]
  rw [← s_a]
  obtain ⟨blk_a, hblk_a⟩ : ∃ b, w3.heap.size = b := ⟨_, rfl⟩
  have lo_a : w.heap.size ≤ blk_a := by have h1 := B3.size; omega
  rw [hblk_a] at e_a
  try rw [hblk_a]
  obtain ⟨U_b, hU_b⟩ : ∃ U, U_a.alloc (.cells #[.int .i64 128867, .int .i64 25] 43) = U := ⟨_, rfl⟩
  obtain ⟨e_b, b_b, s_b⟩ := boxed hU_b
  replace e_a := (b_b.block _ (Array.getElem?_eq_some_iff.1 e_a).1).trans e_a
  have B_U_b : Below w.heap.size w U_b := B_U_a.trans (b_b.mono B_U_a.size)
  rw [hU_b]
  obtain ⟨blk_b, hblk_b⟩ : ∃ b, U_a.heap.size = b := ⟨_, rfl⟩
  have lo_b : w.heap.size ≤ blk_b := by have h1 := B_U_a.size; omega
  rw [hblk_b] at e_b
  try rw [hblk_b]
  go_wp2_with (first | (go_at_call 12; (with_reducible refine Calls.mono (kC2.out _) ?_); clear kC2; rintro e w4 ⟨rfl, hB4⟩) | (go_at_call 13; (with_reducible refine Calls.mono (kS2.out _) ?_); clear kS2; rintro e w5 ⟨rfl, hB5⟩) | (go_at_call 15; (with_reducible refine Calls.mono (kL2.out _) ?_); clear kL2; rintro e w6 ⟨rfl, hB6⟩) | (go_at_call 14; (with_reducible refine Calls.mono (kI.out _) ?_); clear kI; rintro e w7 ⟨rfl, hB7⟩))
  have hS7 := (((hB4.trans (hB5.mono hB4.size)).trans (hB6.mono (hB4.trans (hB5.mono hB4.size)).size)).trans (hB7.mono ((hB4.trans (hB5.mono hB4.size)).trans (hB6.mono (hB4.trans (hB5.mono hB4.size)).size)).size))
  replace e_a := (hS7.block _ (Array.getElem?_eq_some_iff.1 e_a).1).trans e_a
  replace e_b := (hS7.block _ (Array.getElem?_eq_some_iff.1 e_b).1).trans e_b
  have B7 : Below w.heap.size w w7 := (B_U_b.trans (hS7.mono B_U_b.size))
  obtain ⟨U_s, hU_s⟩ : ∃ U, w7.alloc (.cells #[.int .i64 2090, .int .i64 2190, .int .i64 110, .int .i64 120, .int .i64 2995, .int .i64 3091, .int .i64 50000, .int .i64 60000] 48) = U := ⟨_, rfl⟩
  obtain ⟨e_s, b_s, s_s⟩ := boxed hU_s
  replace e_a := (b_s.block _ (Array.getElem?_eq_some_iff.1 e_a).1).trans e_a
  replace e_b := (b_s.block _ (Array.getElem?_eq_some_iff.1 e_b).1).trans e_b
  have B_U_s : Below w.heap.size w U_s := B7.trans (b_s.mono B7.size)
  rw [hU_s]
  rw [← s_s]
  obtain ⟨blk_s, hblk_s⟩ : ∃ b, w7.heap.size = b := ⟨_, rfl⟩
  have lo_s : w.heap.size ≤ blk_s := by have h1 := B7.size; omega
  rw [hblk_s] at e_s
  try rw [hblk_s]
  obtain ⟨U_f, hU_f⟩ : ∃ U, U_s.alloc (.cells #[.int .i64 0, .int .i64 0, .int .i64 0, .int .i64 0, .int .i64 0, .int .i64 0] 51) = U := ⟨_, rfl⟩
  obtain ⟨e_f, b_f, s_f⟩ := boxed hU_f
  replace e_a := (b_f.block _ (Array.getElem?_eq_some_iff.1 e_a).1).trans e_a
  replace e_b := (b_f.block _ (Array.getElem?_eq_some_iff.1 e_b).1).trans e_b
  replace e_s := (b_f.block _ (Array.getElem?_eq_some_iff.1 e_s).1).trans e_s
  have B_U_f : Below w.heap.size w U_f := B_U_s.trans (b_f.mono B_U_s.size)
  rw [hU_f]
  obtain ⟨blk_f, hblk_f⟩ : ∃ b, U_s.heap.size = b := ⟨_, rfl⟩
  have lo_f : w.heap.size ≤ blk_f := by have h1 := B_U_s.size; omega
  rw [hblk_f] at e_f
  try rw [hblk_f]
  go_wp2_with (first | (go_at_call 12; (with_reducible refine Calls.mono (kC3.out _) ?_); clear kC3; rintro e w8 ⟨rfl, hB8⟩) | (go_at_call 13; (with_reducible refine Calls.mono (kS3.out _) ?_); clear kS3; rintro e w9 ⟨rfl, hB9⟩) | (go_at_call 14; (with_reducible refine Calls.mono (kW.out _) ?_); clear kW; rintro e w10 ⟨rfl, hB10⟩))
  have hS10 := ((hB8.trans (hB9.mono hB8.size)).trans (hB10.mono (hB8.trans (hB9.mono hB8.size)).size))
  replace e_a := (hS10.block _ (Array.getElem?_eq_some_iff.1 e_a).1).trans e_a
  replace e_b := (hS10.block _ (Array.getElem?_eq_some_iff.1 e_b).1).trans e_b
  replace e_s := (hS10.block _ (Array.getElem?_eq_some_iff.1 e_s).1).trans e_s
  replace e_f := (hS10.block _ (Array.getElem?_eq_some_iff.1 e_f).1).trans e_f
  have B10 : Below w.heap.size w w10 := (B_U_f.trans (hS10.mono B_U_f.size))
  obtain ⟨U_t, hU_t⟩ : ∃ U, w10.alloc (.cells #[.int .i64 1800, .int .i64 1900, .int .i64 90, .int .i64 100, .int .i64 3000, .int .i64 3100, .int .i64 45000, .int .i64 54299] 48) = U := ⟨_, rfl⟩
  obtain ⟨e_t, b_t, s_t⟩ := boxed hU_t
  replace e_a := (b_t.block _ (Array.getElem?_eq_some_iff.1 e_a).1).trans e_a
  replace e_b := (b_t.block _ (Array.getElem?_eq_some_iff.1 e_b).1).trans e_b
  replace e_s := (b_t.block _ (Array.getElem?_eq_some_iff.1 e_s).1).trans e_s
  replace e_f := (b_t.block _ (Array.getElem?_eq_some_iff.1 e_f).1).trans e_f
  have B_U_t : Below w.heap.size w U_t := B10.trans (b_t.mono B10.size)
  rw [hU_t]
  rw [← s_t]
  obtain ⟨blk_t, hblk_t⟩ : ∃ b, w10.heap.size = b := ⟨_, rfl⟩
  have lo_t : w.heap.size ≤ blk_t := by have h1 := B10.size; omega
  rw [hblk_t] at e_t
  try rw [hblk_t]
  obtain ⟨U_o, hU_o⟩ : ∃ U, U_t.alloc (.cells #[.int .i64 200, .int .i64 201, .int .i64 9, .int .i64 10, .int .i64 4751, .int .i64 6000] 51) = U := ⟨_, rfl⟩
  obtain ⟨e_o, b_o, s_o⟩ := boxed hU_o
  replace e_a := (b_o.block _ (Array.getElem?_eq_some_iff.1 e_a).1).trans e_a
  replace e_b := (b_o.block _ (Array.getElem?_eq_some_iff.1 e_b).1).trans e_b
  replace e_s := (b_o.block _ (Array.getElem?_eq_some_iff.1 e_s).1).trans e_s
  replace e_f := (b_o.block _ (Array.getElem?_eq_some_iff.1 e_f).1).trans e_f
  replace e_t := (b_o.block _ (Array.getElem?_eq_some_iff.1 e_t).1).trans e_t
  have B_U_o : Below w.heap.size w U_o := B_U_t.trans (b_o.mono B_U_t.size)
  rw [hU_o]
  obtain ⟨blk_o, hblk_o⟩ : ∃ b, U_t.heap.size = b := ⟨_, rfl⟩
  have lo_o : w.heap.size ≤ blk_o := by have h1 := B_U_t.size; omega
  rw [hblk_o] at e_o
  try rw [hblk_o]
  go_wp2
  obtain ⟨U_r, hU_r⟩ : ∃ U, U_o.alloc (.cells #[.int .i64 3, .int .i64 0, .int .i64 0, .int .i64 0, .int .i64 0, .int .i64 0, .int .i64 100, .int .i64 200, .int .i64 10, .int .i64 20] 57) = U := ⟨_, rfl⟩
  obtain ⟨e_r, b_r, s_r⟩ := boxed hU_r
  replace e_a := (b_r.block _ (Array.getElem?_eq_some_iff.1 e_a).1).trans e_a
  replace e_b := (b_r.block _ (Array.getElem?_eq_some_iff.1 e_b).1).trans e_b
  replace e_s := (b_r.block _ (Array.getElem?_eq_some_iff.1 e_s).1).trans e_s
  replace e_f := (b_r.block _ (Array.getElem?_eq_some_iff.1 e_f).1).trans e_f
  replace e_t := (b_r.block _ (Array.getElem?_eq_some_iff.1 e_t).1).trans e_t
  replace e_o := (b_r.block _ (Array.getElem?_eq_some_iff.1 e_o).1).trans e_o
  have B_U_r : Below w.heap.size w U_r := B_U_o.trans (b_r.mono B_U_o.size)
  rw [hU_r]
  obtain ⟨blk_r, hblk_r⟩ : ∃ b, U_o.heap.size = b := ⟨_, rfl⟩
  have lo_r : w.heap.size ≤ blk_r := by have h1 := B_U_o.size; omega
  rw [hblk_r] at e_r
  have hbr : blk_o + 1 = blk_r := by omega
  rw [hbr]
  clear hB1 hB2 hB3 hB4 hB5 hB6 hB7 hB8 hB9 hB10 hU_a b_a s_a hblk_a hU_b b_b s_b hblk_b hU_s b_s s_s hblk_s hU_f b_f s_f hblk_f hU_t b_t s_t hblk_t hU_o b_o s_o hblk_o hU_r b_r s_r hblk_r B_U_a B_U_b B_U_s B_U_f B_U_t B_U_o
  have kC := Lib.hid lawC; have kL := Lib.hid lawLot
  have hLr : w.heap.size ≤ U_r.heap.size := B_U_r.size
  refine wp_region_noPanic ?_
  refine wp_region_locL (R := knR U_r.heap.size) (N := knN) (D := knD) 16 113 [12, 13] [42, 43, 44, 45, 46, 47, 48, 49, 50, 51, 41, 52, 53, 54, 11, 12] [[], [], [], [2], [], [], [3, 4, 5], [], [], [0, 1, 6, 7, 8], [9], [10], [10], [10], [], []]
    (by kernel_rfl) (by kernel_rfl) (by kernel_rfl) (by kernel_rfl) (by kernel_rfl) (by kernel_rfl) rfl (fun _ _ _ _ h => h) (knR_mono _) (knD_of _) ?_ ?_ ?_
  · refine ⟨?_, ?_, ?_, ?_, ?_, ?_, ?_, ?_, ?_, ?_, ?_, ?_, ?_, ?_, ?_, ?_, trivial⟩
    · intro vals x hb hf
      simp only [fillS, List.getD_cons_succ, List.getD_cons_zero, Act.put, List.setIfInBounds_toArray, List.set_cons_zero, List.set_cons_succ]
      go_wp2_with (go_at_call 12; (with_reducible refine Calls.mono (kC.out _) ?_); rintro e y ⟨rfl, hB⟩)
      exact ⟨rfl, rfl, hB, _, rfl, rfl, trivial⟩
    · intro vals x hb hf
      simp only [fillS, List.getD_cons_succ, List.getD_cons_zero, Act.put, List.setIfInBounds_toArray, List.set_cons_zero, List.set_cons_succ]
      go_wp2
      exact ⟨rfl, rfl, Below.refl _ _, _, rfl, rfl, trivial⟩
    · intro vals x hb hf
      simp only [fillS, List.getD_cons_succ, List.getD_cons_zero, Act.put, List.setIfInBounds_toArray, List.set_cons_zero, List.set_cons_succ]
      go_wp2_with (go_at_call 15; (with_reducible refine Calls.mono (kL.out _) ?_); rintro e y ⟨rfl, hB⟩)
      exact ⟨rfl, rfl, hB, _, rfl, rfl, trivial⟩
    · intro vals x hb hf
      simp only [fillS, List.getD_cons_succ, List.getD_cons_zero, Act.put, List.setIfInBounds_toArray, List.set_cons_zero, List.set_cons_succ]
      have h2 : vals 2 = ptV exL := hf.1
      rw [h2]
      go_wp2
      exact ⟨rfl, rfl, Below.refl _ _, _, rfl, rfl, trivial⟩
    · intro vals x hb hf
      simp only [fillS, List.getD_cons_succ, List.getD_cons_zero, Act.put, List.setIfInBounds_toArray, List.set_cons_zero, List.set_cons_succ]
      have rr := (row_cells ((hb.block _ (Array.getElem?_eq_some_iff.1 e_r).1).trans e_r)).2.1
      have q0 : x.cell? ⟨blk_r, 0, none⟩ = some (.int .i64 3) := rr 0
      have q1 : x.cell? ⟨blk_r, 1, none⟩ = some (.int .i64 0) := rr 1
      have q2 : x.cell? ⟨blk_r, 2, none⟩ = some (.int .i64 0) := rr 2
      have q3 : x.cell? ⟨blk_r, 3, none⟩ = some (.int .i64 0) := rr 3
      have q4 : x.cell? ⟨blk_r, 4, none⟩ = some (.int .i64 0) := rr 4
      have q5 : x.cell? ⟨blk_r, 5, none⟩ = some (.int .i64 0) := rr 5
      have q6 : x.cell? ⟨blk_r, 6, none⟩ = some (.int .i64 100) := rr 6
      have q7 : x.cell? ⟨blk_r, 7, none⟩ = some (.int .i64 200) := rr 7
      have q8 : x.cell? ⟨blk_r, 8, none⟩ = some (.int .i64 10) := rr 8
      have q9 : x.cell? ⟨blk_r, 9, none⟩ = some (.int .i64 20) := rr 9
      clear rr
      go_wp2
      exact ⟨rfl, rfl, Below.refl _ _, _, rfl, rfl, trivial⟩
    · intro vals x hb hf
      simp only [fillS, List.getD_cons_succ, List.getD_cons_zero, Act.put, List.setIfInBounds_toArray, List.set_cons_zero, List.set_cons_succ]
      go_wp2
      exact ⟨rfl, rfl, Below.refl _ _, _, rfl, rfl, trivial⟩
    · intro vals x hb hf
      simp only [fillS, List.getD_cons_succ, List.getD_cons_zero, Act.put, List.setIfInBounds_toArray, List.set_cons_zero, List.set_cons_succ]
      have h3 : vals 3 = .agg #[.int .i64 1, .int .i64 exL.g, .int .i64 exL.y, .int .i64 exL.t, .int .i64 exL.w, .int .i64 0, .int .i64 0, .int .i64 0, .int .i64 0, .int .i64 0] := hf.1
      rw [h3]
      have h4 : vals 4 = .agg #[.int .i64 3, .int .i64 0, .int .i64 0, .int .i64 0, .int .i64 0, .int .i64 0, .int .i64 100, .int .i64 200, .int .i64 10, .int .i64 20] := hf.2.1
      rw [h4]
      have h5 : vals 5 = .agg #[.int .i64 2, .int .i64 0, .int .i64 0, .int .i64 0, .int .i64 0, .int .i64 220, .int .i64 0, .int .i64 0, .int .i64 0, .int .i64 0] := hf.2.2.1
      rw [h5]
      go_wp2
      exact ⟨rfl, rfl, (Below.refl _ _).alloc (Nat.le_refl _) _, _, rfl, opsAt3 (x := exI) (y := exR) (z := exV) rfl, trivial⟩
    · intro vals x hb hf
      simp only [fillS, List.getD_cons_succ, List.getD_cons_zero, Act.put, List.setIfInBounds_toArray, List.set_cons_zero, List.set_cons_succ]
      go_wp2
      exact ⟨rfl, rfl, (Below.refl _ _).alloc (Nat.le_refl _) _, _, rfl, intsAt3 rfl, trivial⟩
    · intro vals x hb hf
      simp only [fillS, List.getD_cons_succ, List.getD_cons_zero, Act.put, List.setIfInBounds_toArray, List.set_cons_zero, List.set_cons_succ]
      go_wp2
      exact ⟨rfl, rfl, (Below.refl _ _).alloc (Nat.le_refl _) _, _, rfl, intsAt3 rfl, trivial⟩
    · intro vals x hb hf
      simp only [fillS, List.getD_cons_succ, List.getD_cons_zero, Act.put, List.setIfInBounds_toArray, List.set_cons_zero, List.set_cons_succ]
      have h0 : vals 0 = cavV exC := hf.1
      rw [h0]
      have h1 : vals 1 = .agg #[.int .i64 2000, .int .i64 100, .int .i64 3000, .int .i64 50000] := hf.2.1
      rw [h1]
      have h6 : OpsAt x (vals 6) [exI, exR, exV] := hf.2.2.1
      have h7 : IntsAt x (vals 7) [0, 150, 0] := hf.2.2.2.1
      have h8 : IntsAt x (vals 8) [0, 15, 0] := hf.2.2.2.2.1
      go_wp2_with (go_at_call 5; (with_reducible refine Calls.mono (exPlay _ h6 h7 h8) ?_); rintro e y ⟨rfl, hB⟩)
      exact ⟨rfl, rfl, hB, _, rfl, rfl, trivial⟩
    · intro vals x hb hf
      simp only [fillS, List.getD_cons_succ, List.getD_cons_zero, Act.put, List.setIfInBounds_toArray, List.set_cons_zero, List.set_cons_succ]
      have h9 : vals 9 = .tuple #[.agg #[.int .i64 1881, .int .i64 99, .int .i64 3025, .int .i64 45014], .agg #[.int .i64 209, .int .i64 11, .int .i64 0, .int .i64 5001], .int .i64 0] := hf.1
      rw [h9]
      go_wp2
      exact ⟨rfl, rfl, Below.refl _ _, _, rfl, rfl, trivial⟩
    · intro vals x hb hf
      simp only [fillS, List.getD_cons_succ, List.getD_cons_zero, Act.put, List.setIfInBounds_toArray, List.set_cons_zero, List.set_cons_succ]
      have h10 : vals 10 = .tuple #[.agg #[.int .i64 1881, .int .i64 99, .int .i64 3025, .int .i64 45014], .agg #[.int .i64 209, .int .i64 11, .int .i64 0, .int .i64 5001], .int .i64 0] := hf.1
      rw [h10]
      go_wp2
      exact ⟨rfl, rfl, Below.refl _ _, _, rfl, rfl, trivial⟩
    · intro vals x hb hf
      simp only [fillS, List.getD_cons_succ, List.getD_cons_zero, Act.put, List.setIfInBounds_toArray, List.set_cons_zero, List.set_cons_succ]
      have h10 : vals 10 = .tuple #[.agg #[.int .i64 1881, .int .i64 99, .int .i64 3025, .int .i64 45014], .agg #[.int .i64 209, .int .i64 11, .int .i64 0, .int .i64 5001], .int .i64 0] := hf.1
      rw [h10]
      go_wp2
      exact ⟨rfl, rfl, Below.refl _ _, _, rfl, rfl, trivial⟩
    · intro vals x hb hf
      simp only [fillS, List.getD_cons_succ, List.getD_cons_zero, Act.put, List.setIfInBounds_toArray, List.set_cons_zero, List.set_cons_succ]
      have h10 : vals 10 = .tuple #[.agg #[.int .i64 1881, .int .i64 99, .int .i64 3025, .int .i64 45014], .agg #[.int .i64 209, .int .i64 11, .int .i64 0, .int .i64 5001], .int .i64 0] := hf.1
      rw [h10]
      go_wp2
      exact ⟨rfl, rfl, Below.refl _ _, _, rfl, rfl, trivial⟩
    · intro vals x hb hf
      simp only [fillS, List.getD_cons_succ, List.getD_cons_zero, Act.put, List.setIfInBounds_toArray, List.set_cons_zero, List.set_cons_succ]
      go_wp2
      exact ⟨rfl, rfl, (Below.refl _ _).alloc (Nat.le_refl _) _, _, rfl, ⟨_, rfl, hb.size, World.alloc_heap_new _ _⟩, rfl⟩
    · intro vals x hb hf
      simp only [fillS, List.getD_cons_succ, List.getD_cons_zero, Act.put, List.setIfInBounds_toArray, List.set_cons_zero, List.set_cons_succ]
      go_wp2
      exact ⟨rfl, rfl, (Below.refl _ _).alloc (Nat.le_refl _) _, _, rfl, ⟨_, rfl, hb.size, World.alloc_heap_new _ _⟩, rfl⟩
  · intro j hj o ho vals x hb hf
    rcases List.mem_cons.1 hj with rfl | hj
    · obtain rfl := Option.some.inj ho
      simp only [fillS, List.getD_cons_succ, List.getD_cons_zero, Act.put, List.setIfInBounds_toArray, List.set_cons_zero, List.set_cons_succ]
      have h10 : vals 10 = .tuple #[.agg #[.int .i64 1881, .int .i64 99, .int .i64 3025, .int .i64 45014], .agg #[.int .i64 209, .int .i64 11, .int .i64 0, .int .i64 5001], .int .i64 0] := hf.1
      rw [h10]
      exact ⟨_, .inl ⟨rfl, fun w => rfl⟩, rfl, trivial⟩
    · obtain rfl : j = 13 := by simpa using hj
      obtain rfl := Option.some.inj ho
      simp only [fillS, List.getD_cons_succ, List.getD_cons_zero, Act.put, List.setIfInBounds_toArray, List.set_cons_zero, List.set_cons_succ]
      have h10 : vals 10 = .tuple #[.agg #[.int .i64 1881, .int .i64 99, .int .i64 3025, .int .i64 45014], .agg #[.int .i64 209, .int .i64 11, .int .i64 0, .int .i64 5001], .int .i64 0] := hf.1
      rw [h10]
      exact ⟨_, .inl ⟨rfl, fun w => rfl⟩, rfl, trivial⟩
  · intro vals x hb hf hp
    have hrange : List.range 16 = [0, 1, 2, 3, 4, 5, 6, 7, 8, 9, 10, 11, 12, 13, 14, 15] := by rfl
    rw [hrange]
    simp only [fillS, List.getD_cons_succ, List.getD_cons_zero, Act.put, List.setIfInBounds_toArray, List.set_cons_zero, List.set_cons_succ]
    have h0 : vals 0 = cavV exC := hf 0 (by omega)
    have h1 : vals 1 = .agg #[.int .i64 2000, .int .i64 100, .int .i64 3000, .int .i64 50000] := hf 1 (by omega)
    have h2 : vals 2 = ptV exL := hf 2 (by omega)
    have h3 : vals 3 = .agg #[.int .i64 1, .int .i64 exL.g, .int .i64 exL.y, .int .i64 exL.t, .int .i64 exL.w, .int .i64 0, .int .i64 0, .int .i64 0, .int .i64 0, .int .i64 0] := hf 3 (by omega)
    have h4 : vals 4 = .agg #[.int .i64 3, .int .i64 0, .int .i64 0, .int .i64 0, .int .i64 0, .int .i64 0, .int .i64 100, .int .i64 200, .int .i64 10, .int .i64 20] := hf 4 (by omega)
    have h5 : vals 5 = .agg #[.int .i64 2, .int .i64 0, .int .i64 0, .int .i64 0, .int .i64 0, .int .i64 220, .int .i64 0, .int .i64 0, .int .i64 0, .int .i64 0] := hf 5 (by omega)
    have h9 : vals 9 = .tuple #[.agg #[.int .i64 1881, .int .i64 99, .int .i64 3025, .int .i64 45014], .agg #[.int .i64 209, .int .i64 11, .int .i64 0, .int .i64 5001], .int .i64 0] := hf 9 (by omega)
    have h10 : vals 10 = .tuple #[.agg #[.int .i64 1881, .int .i64 99, .int .i64 3025, .int .i64 45014], .agg #[.int .i64 209, .int .i64 11, .int .i64 0, .int .i64 5001], .int .i64 0] := hf 10 (by omega)
    have h11 : vals 11 = .agg #[.int .i64 1881, .int .i64 99, .int .i64 3025, .int .i64 45014] := hf 11 (by omega)
    have h12 : vals 12 = .agg #[.int .i64 209, .int .i64 11, .int .i64 0, .int .i64 5001] := hf 12 (by omega)
    have h13 : vals 13 = .int .i64 0 := hf 13 (by omega)
    obtain ⟨b14, h14, l14, r14⟩ : NewAt U_r.heap.size #[.int .i64 0, .int .i64 0, .int .i64 0, .int .i64 0] 28 (vals 14) x := hf 14 (by omega)
    obtain ⟨b15, h15, l15, r15⟩ : NewAt U_r.heap.size #[.int .i64 0, .int .i64 0, .int .i64 0, .int .i64 0] 28 (vals 15) x := hf 15 (by omega)
    have hne : (b14 : Nat) ≠ b15 := by
      intro h
      have h1 := hp 14 15 (by omega) (by omega) (by omega) ⟨rfl, rfl⟩
      rw [h14, h15, h] at h1
      exact h1 rfl
    rw [h0, h1, h2, h3, h4, h5, h9, h10, h11, h12, h13, h14, h15]
    clear h0 h1 h2 h3 h4 h5 h9 h10 h11 h12 h13 h14 h15 hf hp hrange
    have z_a := (Array.getElem?_eq_some_iff.1 e_a).1
    replace e_a := (hb.block _ z_a).trans e_a
    have n_a : (blk_a : Nat) ≠ b14 := by omega
    have m_a : (blk_a : Nat) ≠ b15 := by omega
    replace e_a := Lib.hid e_a
    have z_b := (Array.getElem?_eq_some_iff.1 e_b).1
    replace e_b := (hb.block _ z_b).trans e_b
    have n_b : (blk_b : Nat) ≠ b14 := by omega
    have m_b : (blk_b : Nat) ≠ b15 := by omega
    replace e_b := Lib.hid e_b
    have z_s := (Array.getElem?_eq_some_iff.1 e_s).1
    replace e_s := (hb.block _ z_s).trans e_s
    have n_s : (blk_s : Nat) ≠ b14 := by omega
    have m_s : (blk_s : Nat) ≠ b15 := by omega
    replace e_s := Lib.hid e_s
    have z_t := (Array.getElem?_eq_some_iff.1 e_t).1
    replace e_t := (hb.block _ z_t).trans e_t
    have n_t : (blk_t : Nat) ≠ b14 := by omega
    have m_t : (blk_t : Nat) ≠ b15 := by omega
    replace e_t := Lib.hid e_t
    have z_o := (Array.getElem?_eq_some_iff.1 e_o).1
    replace e_o := (hb.block _ z_o).trans e_o
    have n_o : (blk_o : Nat) ≠ b14 := by omega
    have m_o : (blk_o : Nat) ≠ b15 := by omega
    replace e_o := Lib.hid e_o
    obtain ⟨p14_0, p14_1, p14_2, p14_3⟩ := rc4 r14
    obtain ⟨f14_0, f14_1, f14_2, f14_3⟩ := rf4 r14
    obtain ⟨p15_0, p15_1, p15_2, p15_3⟩ := rc4 r15
    obtain ⟨f15_0, f15_1, f15_2, f15_3⟩ := rf4 r15
    have BX : Below w.heap.size w x := B_U_r.trans (hb.mono B_U_r.size)
    have L14 : w.heap.size ≤ b14 := by omega
    have L15 : w.heap.size ≤ b15 := by omega
    clear e_r lo_r
    replace r14 := Lib.hid r14
    replace r15 := Lib.hid r15
    go_wp2
    refine NoPanic.normal ?_
    generalize hV : World.setCell _ ⟨b15, 3, none⟩ _ = V
    have R_a : V.heap[blk_a]? = some (.cells #[.int .i64 236949, .int .i64 55] 43 (0, 0)) := by rw [← hV]; have h2 := (set_far (n := b15) 3 (.int .i64 5001) m_a (set_far (n := b15) 2 (.int .i64 0) m_a (set_far (n := b15) 1 (.int .i64 11) m_a (set_far (n := b15) 0 (.int .i64 209) m_a (set_far (n := b14) 3 (.int .i64 45014) n_a (set_far (n := b14) 2 (.int .i64 3025) n_a (set_far (n := b14) 1 (.int .i64 99) n_a (set_far (n := b14) 0 (.int .i64 1881) n_a e_a.out)))))))); exact h2
    have R_b : V.heap[blk_b]? = some (.cells #[.int .i64 128867, .int .i64 25] 43 (0, 0)) := by rw [← hV]; have h2 := (set_far (n := b15) 3 (.int .i64 5001) m_b (set_far (n := b15) 2 (.int .i64 0) m_b (set_far (n := b15) 1 (.int .i64 11) m_b (set_far (n := b15) 0 (.int .i64 209) m_b (set_far (n := b14) 3 (.int .i64 45014) n_b (set_far (n := b14) 2 (.int .i64 3025) n_b (set_far (n := b14) 1 (.int .i64 99) n_b (set_far (n := b14) 0 (.int .i64 1881) n_b e_b.out)))))))); exact h2
    have R_s : V.heap[blk_s]? = some (.cells #[.int .i64 2090, .int .i64 2190, .int .i64 110, .int .i64 120, .int .i64 2995, .int .i64 3091, .int .i64 50000, .int .i64 60000] 48 (0, 0)) := by rw [← hV]; have h2 := (set_far (n := b15) 3 (.int .i64 5001) m_s (set_far (n := b15) 2 (.int .i64 0) m_s (set_far (n := b15) 1 (.int .i64 11) m_s (set_far (n := b15) 0 (.int .i64 209) m_s (set_far (n := b14) 3 (.int .i64 45014) n_s (set_far (n := b14) 2 (.int .i64 3025) n_s (set_far (n := b14) 1 (.int .i64 99) n_s (set_far (n := b14) 0 (.int .i64 1881) n_s e_s.out)))))))); exact h2
    have R_t : V.heap[blk_t]? = some (.cells #[.int .i64 1800, .int .i64 1900, .int .i64 90, .int .i64 100, .int .i64 3000, .int .i64 3100, .int .i64 45000, .int .i64 54299] 48 (0, 0)) := by rw [← hV]; have h2 := (set_far (n := b15) 3 (.int .i64 5001) m_t (set_far (n := b15) 2 (.int .i64 0) m_t (set_far (n := b15) 1 (.int .i64 11) m_t (set_far (n := b15) 0 (.int .i64 209) m_t (set_far (n := b14) 3 (.int .i64 45014) n_t (set_far (n := b14) 2 (.int .i64 3025) n_t (set_far (n := b14) 1 (.int .i64 99) n_t (set_far (n := b14) 0 (.int .i64 1881) n_t e_t.out)))))))); exact h2
    have R_o : V.heap[blk_o]? = some (.cells #[.int .i64 200, .int .i64 201, .int .i64 9, .int .i64 10, .int .i64 4751, .int .i64 6000] 51 (0, 0)) := by rw [← hV]; have h2 := (set_far (n := b15) 3 (.int .i64 5001) m_o (set_far (n := b15) 2 (.int .i64 0) m_o (set_far (n := b15) 1 (.int .i64 11) m_o (set_far (n := b15) 0 (.int .i64 209) m_o (set_far (n := b14) 3 (.int .i64 45014) n_o (set_far (n := b14) 2 (.int .i64 3025) n_o (set_far (n := b14) 1 (.int .i64 99) n_o (set_far (n := b14) 0 (.int .i64 1881) n_o e_o.out)))))))); exact h2
    have R_p : V.heap[b14]? = some (.cells #[.int .i64 1881, .int .i64 99, .int .i64 3025, .int .i64 45014] 28 (0, 0)) := by rw [← hV]; have h2 := (set_far (n := b15) 3 (.int .i64 5001) hne (set_far (n := b15) 2 (.int .i64 0) hne (set_far (n := b15) 1 (.int .i64 11) hne (set_far (n := b15) 0 (.int .i64 209) hne (set_one (set_one (set_one (set_one r14.out 0 (.int .i64 1881)) 1 (.int .i64 99)) 2 (.int .i64 3025)) 3 (.int .i64 45014)))))); simp only [List.setIfInBounds_toArray, List.set_cons_zero, List.set_cons_succ] at h2; exact h2
    have R_q : V.heap[b15]? = some (.cells #[.int .i64 209, .int .i64 11, .int .i64 0, .int .i64 5001] 28 (0, 0)) := by rw [← hV]; have h2 := (set_one (set_one (set_one (set_one (set_far (n := b14) 3 (.int .i64 45014) (Ne.symm hne) (set_far (n := b14) 2 (.int .i64 3025) (Ne.symm hne) (set_far (n := b14) 1 (.int .i64 99) (Ne.symm hne) (set_far (n := b14) 0 (.int .i64 1881) (Ne.symm hne) r15.out)))) 0 (.int .i64 209)) 1 (.int .i64 11)) 2 (.int .i64 0)) 3 (.int .i64 5001)); simp only [List.setIfInBounds_toArray, List.set_cons_zero, List.set_cons_succ] at h2; exact h2
    have BV : Below w.heap.size w V := by rw [← hV]; exact (Below.setCell (p := ⟨b15, 3, none⟩) (Below.setCell (p := ⟨b15, 2, none⟩) (Below.setCell (p := ⟨b15, 1, none⟩) (Below.setCell (p := ⟨b15, 0, none⟩) (Below.setCell (p := ⟨b14, 3, none⟩) (Below.setCell (p := ⟨b14, 2, none⟩) (Below.setCell (p := ⟨b14, 1, none⟩) (Below.setCell (p := ⟨b14, 0, none⟩) BX L14 (.int .i64 1881)) L14 (.int .i64 99)) L14 (.int .i64 3025)) L14 (.int .i64 45014)) L15 (.int .i64 209)) L15 (.int .i64 11)) L15 (.int .i64 0)) L15 (.int .i64 5001))
    clear hV p14_0 f14_0 p14_1 f14_1 p14_2 f14_2 p14_3 f14_3 p15_0 f15_0 p15_1 f15_1 p15_2 f15_2 p15_3 f15_3 r14 r15 hb l14 l15
    obtain ⟨q_a_0, q_a_1⟩ := rc2 R_a
    clear R_a
    obtain ⟨q_b_0, q_b_1⟩ := rc2 R_b
    clear R_b
    obtain ⟨q_s_0, q_s_1, q_s_2, q_s_3, q_s_4, q_s_5, q_s_6, q_s_7⟩ := rc8 R_s
    clear R_s
    obtain ⟨q_t_0, q_t_1, q_t_2, q_t_3, q_t_4, q_t_5, q_t_6, q_t_7⟩ := rc8 R_t
    clear R_t
    obtain ⟨q_o_0, q_o_1, q_o_2, q_o_3, q_o_4, q_o_5⟩ := rc6 R_o
    clear R_o
    obtain ⟨q_p_0, q_p_1, q_p_2, q_p_3⟩ := rc4 R_p
    clear R_p
    obtain ⟨q_q_0, q_q_1, q_q_2, q_q_3⟩ := rc4 R_q
    clear R_q
    go_wp2
    go_ret
    exact ⟨rfl, BV⟩
end Go.Proofs.Ytdilgjhdimlbkaa
