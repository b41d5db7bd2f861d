/- Walks: the references' small functions. Walks: the reference's search for the least order; comparisons of lists. -/
import Derived.Test.YtacajmpggjgaiaaRows
import Derived.Test.YtacajmpggjgaiaaMem
import Derived.WalkKit
import Derived.WalkSpells
import Derived.WalkLawsBesides
import Derived.Deep.QuietTactic
import Derived.BigQuiet
import Derived.Test.YtacajmpggjgaiaaVars
import Derived.Lib.Hide
set_option linter.unusedVariables false
set_option linter.unusedSimpArgs false
namespace Go.Proofs.Ytacajmpggjgaiaa
open Go.RowKit Go.Sd

theorem bool_ret {a b : Bool} (h : a = b) : Ending.returned (.bool a) = .returned (.bool b) := by rw [h]
theorem int_val {k : IntKind} {a b : Int} (h : a = b) : Value.int k a = .int k b := by rw [h]
theorem int_ret {k : IntKind} {a b : Int} (h : a = b) : Ending.returned (.int k a) = .returned (.int k b) := by rw [h]

set_option maxHeartbeats 400000 in
theorem refIn (a b c : Int) (w : World) :
    Calls Try.prog 59 #[.int .i64 a, .int .i64 b, .int .i64 c] w fun e w' => e = .returned (.bool (Sea.inB a b c)) ∧ w = w' := by
  by_cases h : b ≤ a
  · go_enter Try.func59, Try.ntmps59
    go_wp2
    go_ret
    exact ⟨by simp [Sea.inB, h], rfl⟩
  · go_enter Try.func59, Try.ntmps59
    go_wp2
    go_ret
    exact ⟨by simp [Sea.inB]; intro _; omega, rfl⟩

set_option maxHeartbeats 400000 in
theorem refFill (sv : Value) (s : Sea.S) (n : Int) (w : World) (hs : SeasonAt w sv s) :
    Calls Try.prog 31 #[sv, .int .i64 n] w fun e w' => e = .returned (.bool (Sea.inB n 0 s.space)) ∧ Below w.heap.size w w' := by
  obtain ⟨rv, dv, rfl, -, -⟩ := hs
  go_enter Try.func31, Try.ntmps31
  go_wp2_with (go_at_call 59; refine (refIn _ _ _ _).mono ?_; rintro e w' ⟨rfl, rfl⟩)
  go_ret
  exact ⟨rfl, (Below.refl _ _).alloc (Nat.le_refl _) _⟩

set_option maxHeartbeats 400000 in
theorem refDay (sv : Value) (s : Sea.S) (n : Int) (w : World) (hs : SeasonAt w sv s) :
    Calls Try.prog 30 #[sv, .int .i64 n] w fun e w' => e = .returned (.bool (Sea.inB n 0 (s.days.length - 1))) ∧ Below w.heap.size w w' := by
  obtain ⟨rv, dv, rfl, -, ⟨a, cap, rfl, hm, -⟩⟩ := hs
  unfold maxLen at hm
  go_enter Try.func30, Try.ntmps30
  go_wp2_with (go_at_call 59; refine (refIn _ _ _ _).mono ?_; rintro e w' ⟨rfl, rfl⟩)
  go_ret
  exact ⟨rfl, (Below.refl _ _).alloc (Nat.le_refl _) _⟩

set_option maxHeartbeats 400000 in
theorem refNom (sv : Value) (s : Sea.S) (day n : Int) (w : World) (hs : SeasonAt w sv s) (h0 : 0 ≤ day) (h1 : day < s.days.length) :
    Calls Try.prog 33 #[sv, .int .i64 day, .int .i64 n] w fun e w' => e = .returned (.bool (Sea.inB n (Sea.dayAt s.days day.toNat).nlo (Sea.dayAt s.days day.toNat).nhi)) ∧ Below w.heap.size w w' := by
  obtain ⟨k, rfl⟩ := Int.eq_ofNat_of_zero_le h0
  rw [Int.toNat_natCast]
  obtain ⟨rv, dv, rfl, -, ⟨a, cap, rfl, hm, hc⟩⟩ := hs
  obtain ⟨b, off, rfl, hlt, hk⟩ := hc (by omega)
  obtain ⟨c0, c1, c2, c3, c4, c5, c6, c7⟩ := hk k (by omega)
  clear hk hc
  unfold maxLen at hm
  go_enter Try.func33, Try.ntmps33
  go_wp2
  go_quiet ((go_at_call 59; exact Calls.quiet_of_same ((refIn _ _ _ _).mono (by rintro e w' ⟨rfl, rfl⟩; exact ⟨rfl, rfl⟩))))
  go_wp2
  go_ret
  exact ⟨rfl, below_drewN ((Below.refl _ _).alloc (Nat.le_refl _) _) _⟩

theorem lim_stop (rows : List Sea.Row) (fill : Int) (k : Nat) (h : (Sea.rowAt rows k).fill ≤ fill) : Sea.limTo rows fill (k + 1) = Sea.rowAt rows k := by
  rw [Sea.limTo, if_pos h]
theorem lim_go (rows : List Sea.Row) (fill : Int) (k : Nat) (h : fill < (Sea.rowAt rows k).fill) : Sea.limTo rows fill (k + 1) = Sea.limTo rows fill k := by
  rw [Sea.limTo, if_neg (by omega)]

set_option maxHeartbeats 400000 in
theorem refLimits (sv : Value) (s : Sea.S) (fill : Int) (w : World) (hs : SeasonAt w sv s) (hn : 0 < s.rows.length) (h0 : (Sea.rowAt s.rows 0).fill ≤ fill) :
    Calls Try.prog 40 #[sv, .int .i64 fill] w fun e w' => e = .returned (rowV (s.lim fill)) ∧ Below w.heap.size w w' := by
  obtain ⟨rv, dv, rfl, ⟨a, cap, rfl, hm, hc⟩, -⟩ := hs
  obtain ⟨b, off, rfl, hlt, hk⟩ := hc (by omega)
  unfold maxLen at hm
  have h0' : (Sea.rowAt s.rows 0).fill ≤ fill := h0
  clear h0 hc
  go_enter Try.func40, Try.ntmps40
  go_wp2
  go_loopw [5] (fun i wr => ∃ k : Nat, k < s.rows.length ∧ i = .int .i64 k ∧ Hid (Sea.limTo s.rows fill (k + 1) = s.lim fill) ∧ wr = (w.alloc
      (Obj.cells
        #[Value.int IntKind.i64 s.space, Value.int IntKind.i64 s.start, Value.int IntKind.i64 s.elo,
          Value.int IntKind.i64 s.ehi, Value.slice (some { block := b, off := off }) s.rows.length cap, dv]
        27)).alloc
  (Obj.cells #[Value.int IntKind.i64 0, Value.int IntKind.i64 0, Value.int IntKind.i64 0] 65)) (fun i _ => (intOf i).toNat)
  case atStart => exact ⟨s.rows.length - 1, by omega, by go_num, by show Sea.limTo _ _ _ = Sea.limTo _ _ _; rw [Nat.sub_add_cancel (by omega)], rfl⟩
  case round =>
    obtain ⟨k, hkn, rfl, hH, rfl⟩ := hrel
    obtain ⟨c0, c1, c2⟩ := hk k hkn
    by_cases hle : (Sea.rowAt s.rows k).fill ≤ fill
    · have hst := lim_stop s.rows fill k hle
      have hst' : Hid (rowV (s.lim fill) = rowV (Sea.rowAt s.rows k)) := by show _ = _; rw [← hH.out, hst]
      clear hst hH
      go_wp2
      refine bodyPost_ret (v := rowV (Sea.rowAt s.rows k)) (by simp [results, Try.results40, go_sem, rowV]) rfl ⟨by rw [hst'.out], ?_⟩
      exact ((Below.refl _ _).alloc (Nat.le_refl _) _).alloc (by simp) _
    · have h1 : 0 < k := by
        rcases Nat.eq_zero_or_pos k with rfl | h
        · exact absurd h0' hle
        · exact h
      have hgo := lim_go s.rows fill k (by omega)
      have hH' : Hid (Sea.limTo s.rows fill (k - 1 + 1) = s.lim fill) := by show _ = _; rw [Nat.sub_add_cancel h1, ← hgo]; exact hH.out
      clear hgo hH
      go_wp2
      go_roundw
      case rel => exact ⟨k - 1, by omega, by go_num, hH', trivial⟩
      case measure => simp [intOf]; omega

/-- A season that lies boxed in W, its day k at hand. -/
theorem day_cells {W : World} {dv : Value} {s : Sea.S} {k : Nat} (h : DaysAt W dv s.days) (hk : k < s.days.length) :
    ∃ b off cap, dv = .slice (some ⟨b, off, none⟩) s.days.length cap ∧ b < W.heap.size ∧ s.days.length ≤ 9223372036854775807 ∧ DayCells W b (off + k * 8) (Sea.dayAt s.days k) := by
  obtain ⟨a, cap, rfl, hm, hc⟩ := h
  obtain ⟨b, off, rfl, hlt, hk'⟩ := hc (by omega)
  unfold maxLen at hm
  exact ⟨b, off, cap, rfl, hlt, by omega, hk' k hk⟩

set_option maxHeartbeats 1000000 in
theorem refBreaks (sv : Value) (s : Sea.S) (day fill nom x : Int) (w : World) (hs : SeasonAt w sv s) (ok : Sea.Ok s) (hd0 : 0 ≤ day) (hd1 : day < s.days.length)
    (b1 : 0 ≤ fill ∧ fill ≤ 100) (b2 : -100 ≤ nom ∧ nom ≤ 100) (b3 : -100 ≤ x ∧ x ≤ 100) :
    Calls Try.prog 78 #[sv, .int .i64 day, .int .i64 fill, .int .i64 nom, .int .i64 x] w fun e w' => e = .returned (.int .i64 (s.rule day.toNat fill nom x)) ∧ Below w.heap.size w w' := by
  obtain ⟨k, rfl⟩ := Int.eq_ofNat_of_zero_le hd0
  rw [Int.toNat_natCast]
  have hs' := hs
  obtain ⟨rv, dv, rfl, -, hd⟩ := hs'
  obtain ⟨b, off, cap, rfl, hlt, hm, c0, c1, c2, c3, c4, c5, c6, c7⟩ := day_cells hd (k := k) (by omega)
  clear hd
  have hd1' : (k : Int) < (s.days.length : Int) := by omega
  have hnr : 0 < s.rows.length := by have := ok.nrows; omega
  have hr0 : (Sea.rowAt s.rows 0).fill ≤ fill := by have := ok.row0; omega
  go_enter Try.func78, Try.ntmps78
  go_wp2
  generalize hW : w.alloc (sBox s rv (.slice (some ⟨b, off, none⟩) s.days.length cap)) = W
  obtain ⟨hsz, hBw, q0, q1, q2, q3, q4, q5⟩ := box_season hW
  clear hW
  have hs2 := hs.mono hBw
  have hlt2 : b < W.heap.size := by omega
  obtain ⟨c0, c1, c2, c3, c4, c5, c6, c7⟩ := DayCells.mono ⟨c0, c1, c2, c3, c4, c5, c6, c7⟩ hBw
  refine wp_region_vars growth_below (va := [⟨13, 11, 82, #[.int .i64 0, .int .i64 0, .int .i64 0, .int .i64 0, .int .i64 0, .int .i64 0, .int .i64 0, .int .i64 0], 15, .tmp 18⟩, ⟨14, 12, 65, #[.int .i64 0, .int .i64 0, .int .i64 0], 16, .tmp 21⟩]) (by kernel_rfl) (by kernel_rfl) ?_ ?_ (by simp) (fun T f hT hf hcl => ?_)
  · intro p hp w
    simp only [List.mem_cons, List.not_mem_nil, or_false] at hp
    rcases hp with rfl | rfl <;> go_simp
  · intro p hp
    simp only [List.mem_cons, List.not_mem_nil, or_false] at hp
    rcases hp with rfl | rfl <;> kernel_rfl
  have hg : ∀ (g : T) (b o : Nat), b < W.heap.size → (f g).cell? ⟨b, o, none⟩ = W.cell? ⟨b, o, none⟩ := fun g => below_cell (hf g)
  simp only [lexOf, List.zipIdx_cons, List.zipIdx_nil, List.map_cons, List.map_nil, isMade, List.any_cons, List.any_nil, Nat.reduceAdd, Nat.reduceBEq, Bool.or_false, Bool.false_or, Bool.or_self, Bool.false_eq_true, if_false, if_true, Nat.zero_add, BEq.rfl, Bool.or_true, Bool.true_or]
  simp only [Go.Sd.blank]
  repeat (go_big_quiet_step ((first | (go_at_call 40; refine Calls.mono (refLimits _ s fill _ (hs2.mono (hf _)) hnr hr0) ?_; rintro e w' ⟨rfl, hb⟩; exact ⟨rfl, hcl _ _ hb⟩))))
  refine wpQuiet_nil ?_
  refine ⟨?_, ?_⟩
  · intro p hp
    simp only [List.mem_cons, List.not_mem_nil, or_false] at hp
    rcases hp with rfl | rfl <;> (constructor <;> simp [go_sem, Value.cells, Value.oneCell'])
  intro ns w' hB hv
  obtain ⟨n1, n2, rfl, hne, ⟨hn1, hl1, hc1, hf1⟩, ⟨hn2, hl2, hc2, hf2⟩⟩ := vars_two hv
  clear hv hf hcl hg
  simp only [placeV, Act.put, List.setIfInBounds_toArray, List.set_cons_zero, List.set_cons_succ]
  simp [go_sem] at hc1 hc2
  have hB' : Below w.heap.size w w' := hBw.trans (hB.mono hBw.size)
  have hcc := below_cell hB
  clear hB hBw
  go_wp2_with (go_at_call 59; refine (refIn _ _ _ _).mono ?_; rintro e w' ⟨rfl, rfl⟩)
  all_goals
    go_ret
    refine ⟨int_ret ?_, hB'⟩
    unfold Sea.S.rule
    repeat (first | rw [if_pos (by first | omega | simpa using ‹(!Sea.inB _ _ _) = true›)] | rw [if_neg (by first | omega | simpa using ‹(!Sea.inB _ _ _) = false›)])
    try first | rfl | (rw [if_pos ⟨by omega, by simpa using ‹(!Sea.inB _ s.elo s.ehi) = true›⟩]) | (rw [if_neg (by rintro ⟨-, h2⟩; have := ‹(!Sea.inB _ s.elo s.ehi) = false›; rw [h2] at this; cases this)])

theorem mul_bd {x y : Int} (hx : -100 ≤ x ∧ x ≤ 100) (hy : 0 ≤ y ∧ y ≤ 1000000) : -100000000 ≤ x * y ∧ x * y ≤ 100000000 := by
  obtain ⟨h1, h2⟩ := hx
  obtain ⟨h3, h4⟩ := hy
  constructor
  · have : (-100) * y ≤ x * y := Int.mul_le_mul_of_nonneg_right h1 h3
    omega
  · have : x * y ≤ 100 * y := Int.mul_le_mul_of_nonneg_right h2 h3
    omega

theorem wrap_mul {x y : Int} (hx : -100 ≤ x ∧ x ≤ 100) (hy : 0 ≤ y ∧ y ≤ 1000000) : wrap64 (x * y) = x * y :=
  IntWalk.wrap64_in _ (by have := mul_bd hx hy; omega)

set_option maxHeartbeats 400000 in
theorem refCost (sv : Value) (s : Sea.S) (day x : Int) (w : World) (hs : SeasonAt w sv s) (ok : Sea.Ok s) (hd0 : 0 ≤ day) (hd1 : day < s.days.length) (b1 : -100 ≤ x ∧ x ≤ 100) :
    Calls Try.prog 49 #[sv, .int .i64 day, .int .i64 x] w fun e w' => e = .returned (.int .i64 (s.cost day.toNat x)) ∧ Below w.heap.size w w' := by
  obtain ⟨k, rfl⟩ := Int.eq_ofNat_of_zero_le hd0
  rw [Int.toNat_natCast]
  obtain ⟨rv, dv, rfl, -, hd⟩ := hs
  obtain ⟨b, off, cap, rfl, hlt, hm, c0, c1, -, -, -, -, -, -⟩ := day_cells hd (k := k) (by omega)
  clear hd
  have hd1' : (k : Int) < (s.days.length : Int) := by omega
  have hb := ok.days k (by omega)
  by_cases hx : x < 0
  · go_enter Try.func49, Try.ntmps49
    go_wp2
    go_ret
    exact ⟨int_ret (by unfold Sea.S.cost; rw [if_pos hx]; exact wrap_mul b1 ⟨hb.2.2.1, hb.2.2.2.1⟩), (Below.refl _ _).alloc (Nat.le_refl _) _⟩
  · go_enter Try.func49, Try.ntmps49
    go_wp2
    go_ret
    exact ⟨int_ret (by unfold Sea.S.cost; rw [if_neg (by omega)]; exact wrap_mul b1 ⟨hb.1, hb.2.1⟩), (Below.refl _ _).alloc (Nat.le_refl _) _⟩
end Go.Proofs.Ytacajmpggjgaiaa
namespace Go.Proofs.Ytacajmpggjgaiaa
open Go.RowKit Go.Sd

theorem int_cell {W : World} {v : Value} {xs : List Int} (h : IntsAt W v xs) (hn : 0 < xs.length) :
    ∃ b off cap, v = .slice (some ⟨b, off, none⟩) xs.length cap ∧ b < W.heap.size ∧ xs.length ≤ 9223372036854775807 ∧ ∀ k, k < xs.length → W.cell? ⟨b, off + k, none⟩ = some (.int .i64 (Sea.at0 xs k)) := by
  obtain ⟨a, cap, rfl, hm, hc⟩ := h
  obtain ⟨b, off, rfl, hlt, hk'⟩ := hc hn
  unfold maxLen at hm
  exact ⟨b, off, cap, rfl, hlt, by omega, hk'⟩

theorem rule_fine {s : Sea.S} {k : Nat} {fill nom x : Int} (h : s.rule k fill nom x = 1) (hg : 0 ≤ (Sea.dayAt s.days k).glo) (hg' : (Sea.dayAt s.days k).ghi ≤ s.space) : 0 ≤ fill + nom + x ∧ fill + nom + x ≤ s.space := by
  unfold Sea.S.rule at h
  by_cases h1 : (Sea.dayAt s.days k).offer < x; · rw [if_pos h1] at h; omega
  rw [if_neg h1] at h
  by_cases h2 : (Sea.dayAt s.days k).take < -x; · rw [if_pos h2] at h; omega
  rw [if_neg h2] at h
  by_cases h3 : (s.lim fill).inn < nom + x; · rw [if_pos h3] at h; omega
  rw [if_neg h3] at h
  by_cases h4 : (s.lim fill).out < -nom - x; · rw [if_pos h4] at h; omega
  rw [if_neg h4] at h
  by_cases h5 : Sea.inB (fill + nom + x) (Sea.dayAt s.days k).glo (Sea.dayAt s.days k).ghi = false; · rw [if_pos h5] at h; omega
  have := Sea.inB_iff.1 (by simpa using h5 : Sea.inB (fill + nom + x) (Sea.dayAt s.days k).glo (Sea.dayAt s.days k).ghi = true)
  omega

theorem least_skip {s : Sea.S} {d k : Nat} {fill nom : Int} {next : List Int}
    (h : ¬ (s.rule d fill nom (k - (Sea.dayAt s.days d).take) = 1 ∧ Sea.at0 next (fill + nom + (k - (Sea.dayAt s.days d).take)).toNat < Sea.never ∧
      s.cost d (k - (Sea.dayAt s.days d).take) + Sea.at0 next (fill + nom + (k - (Sea.dayAt s.days d).take)).toNat < (Sea.leastTo s d fill nom next k).1)) :
    Sea.leastTo s d fill nom next (k + 1) = Sea.leastTo s d fill nom next k := by
  rw [Sea.leastTo]; exact if_neg h
theorem least_take {s : Sea.S} {d k : Nat} {fill nom : Int} {next : List Int}
    (h : s.rule d fill nom (k - (Sea.dayAt s.days d).take) = 1 ∧ Sea.at0 next (fill + nom + (k - (Sea.dayAt s.days d).take)).toNat < Sea.never ∧
      s.cost d (k - (Sea.dayAt s.days d).take) + Sea.at0 next (fill + nom + (k - (Sea.dayAt s.days d).take)).toNat < (Sea.leastTo s d fill nom next k).1) :
    Sea.leastTo s d fill nom next (k + 1) = (s.cost d (k - (Sea.dayAt s.days d).take) + Sea.at0 next (fill + nom + (k - (Sea.dayAt s.days d).take)).toNat, k - (Sea.dayAt s.days d).take) := by
  rw [Sea.leastTo]; exact if_pos h

theorem cost_bd {s : Sea.S} (ok : Sea.Ok s) {d : Nat} (hd : d < s.days.length) {x : Int} (hx : -100 ≤ x ∧ x ≤ 100) : -100000000 ≤ s.cost d x ∧ s.cost d x ≤ 100000000 := by
  have hb := ok.days d hd
  unfold Sea.S.cost
  split
  · exact mul_bd hx ⟨by omega, by omega⟩
  · exact mul_bd hx ⟨by omega, by omega⟩

set_option maxHeartbeats 1000000 in
theorem refLeast (sv nv : Value) (s : Sea.S) (next : List Int) (day fill nom : Int) (w : World) (hs : SeasonAt w sv s) (ok : Sea.Ok s) (hd0 : 0 ≤ day) (hd1 : day < s.days.length)
    (hf : 0 ≤ fill ∧ fill ≤ s.space) (hn : -100 ≤ nom ∧ nom ≤ 100) (hx : IntsAt w nv next) (hl : (next.length : Int) = s.space + 1)
    (hb : ∀ k, k < next.length → -1000000000000000 ≤ Sea.at0 next k ∧ Sea.at0 next k ≤ 1000000000000000) :
    Calls Try.prog 62 #[sv, .int .i64 day, .int .i64 fill, .int .i64 nom, nv] w fun e w' =>
      e = .returned (.tuple #[.int .i64 (s.least day.toNat fill nom next).1, .int .i64 (s.least day.toNat fill nom next).2]) ∧ Below w.heap.size w w' := by
  obtain ⟨d, rfl⟩ := Int.eq_ofNat_of_zero_le hd0
  rw [Int.toNat_natCast]
  have hs' := hs
  obtain ⟨rv, dv, rfl, -, hd⟩ := hs'
  have hsp := ok.space
  obtain ⟨b, off, cap, rfl, hlt, hm, c0, c1, c2, c3, c4, c5, c6, c7⟩ := day_cells hd (k := d) (by omega)
  obtain ⟨xb, xo, xc, rfl, hxl, hxm, hxk⟩ := int_cell hx (by omega)
  clear hd
  have hdk := ok.days d (by omega)
  have hd1' : (d : Int) < (s.days.length : Int) := by omega
  go_enter Try.func62, Try.ntmps62
  go_wp2
  generalize hW : w.alloc (sBox s rv (.slice (some ⟨b, off, none⟩) s.days.length cap)) = W
  obtain ⟨hsz, hBw, q0, q1, q2, q3, q4, q5⟩ := box_season hW
  clear hW
  have hs2 := hs.mono hBw
  have hlt2 : b < W.heap.size := by omega
  have hxl2 : xb < W.heap.size := by omega
  obtain ⟨c0, c1, c2, c3, c4, c5, c6, c7⟩ := DayCells.mono ⟨c0, c1, c2, c3, c4, c5, c6, c7⟩ hBw
  have hxk2 : ∀ k, k < next.length → W.cell? ⟨xb, xo + k, none⟩ = some (.int .i64 (Sea.at0 next k)) := fun k hk => kept_cell hBw (hxk k hk)
  have hg := grow_cell W
  clear hxk hx
  go_loopw [12, 13, 14] (fun p q i wr => ∃ k : Nat, k ≤ ((Sea.dayAt s.days d).take + (Sea.dayAt s.days d).offer + 1).toNat ∧ i = .int .i64 (k - (Sea.dayAt s.days d).take) ∧
      p = .int .i64 (Sea.leastTo s d fill nom next k).1 ∧ q = .int .i64 (Sea.leastTo s d fill nom next k).2 ∧ ∃ g : Grow W, wr = g.x)
    (fun _ _ i _ => ((Sea.dayAt s.days d).offer + 1 - intOf i).toNat)
  case atStart => exact ⟨0, by omega, by simp, rfl, rfl, Grow.self W, rfl⟩
  case round =>
    obtain ⟨k, hk, rfl, rfl, rfl, g, rfl⟩ := hrel
    by_cases hlast : (k : Int) - (Sea.dayAt s.days d).take ≤ (Sea.dayAt s.days d).offer
    · by_cases hr : s.rule d fill nom (k - (Sea.dayAt s.days d).take) = 1
      · have hin := rule_fine hr (by omega) (by omega)
        obtain ⟨x, hxe⟩ : ∃ x : Int, (k : Int) - (Sea.dayAt s.days d).take = x := ⟨_, rfl⟩
        rw [hxe] at hr hlast hin
        have hx1 : -100 ≤ x ∧ x ≤ 100 := by omega
        obtain ⟨j, hj⟩ := Int.eq_ofNat_of_zero_le hin.1
        have hjn : j < next.length := by omega
        have hcell := hxk2 j hjn
        have hbj := hb j hjn
        have hcb := cost_bd ok (d := d) (by omega) hx1
        have hin' : (0 : Int) ≤ fill + nom + x ∧ fill + nom + x < next.length := by omega
        have hjt : (fill + nom + x).toNat = j := by omega
        have Hj := Lib.hid hj
        have Hx := Lib.hid hxe
        clear hj
        rw [hxe]
        clear hxe
        by_cases hv : Sea.at0 next j < Sea.never
        · have hv' : Sea.at0 next j < 1000000000000000 := hv
          go_wp2_with (go_at_call 78; refine Calls.mono (refBreaks _ s _ _ _ _ _ (hs2.mono g.h) ok (by omega) (by omega) (by omega) (by omega) (by omega)) ?_; rintro e w' ⟨rfl, hb'⟩; obtain ⟨g1, rfl⟩ := g.next hb')
          have hgg : ∀ (h : Grow g1.x) (b o : Nat), b < W.heap.size → h.x.cell? ⟨b, o, none⟩ = W.cell? ⟨b, o, none⟩ := fun h b o hb => (grow_cell g1.x h b o (Nat.lt_of_lt_of_le hb g1.size)).trans (grow_cell W g1 b o hb)
          refine wp_region_grow (by kernel_rfl) (by kernel_rfl) ?_
          repeat (go_big_quiet_step ((first | (go_at_call 49; exact Calls.grow (refCost _ s _ _ _ (hs2.mono (g1.h.trans (Below.mono (Grow.h _) g1.size))) ok (by omega) (by omega) hx1)))))
          refine wpQuiet_nil ?_
          rintro _ ⟨gx, rfl⟩
          clear hgg
          obtain ⟨g2, hg2⟩ := g1.next gx.h
          rw [hg2]
          clear hg2 gx
          go_wp2
          · have e : Hid (Sea.leastTo s d fill nom next (k + 1) = (s.cost d x + Sea.at0 next j, x)) := by
              show _ = _
              rw [least_take (by rw [Hx.out, hjt]; exact ⟨hr, hv, by assumption⟩), Hx.out, hjt]
            exact ⟨⟨k + 1, by have := Hx.out; omega, int_val (by have := Hx.out; omega), by rw [e.out], by rw [e.out], g2, rfl⟩, by simp [intOf]; omega⟩
          · have e : Hid (Sea.leastTo s d fill nom next (k + 1) = Sea.leastTo s d fill nom next k) := least_skip fun h => by
              rw [Hx.out, hjt] at h
              have := h.2.2
              omega
            exact ⟨⟨k + 1, by have := Hx.out; omega, int_val (by have := Hx.out; omega), by rw [e.out], by rw [e.out], g2, rfl⟩, by simp [intOf]; omega⟩
        · have hv' : 1000000000000000 ≤ Sea.at0 next j := by unfold Sea.never at hv; omega
          go_wp2_with (go_at_call 78; refine Calls.mono (refBreaks _ s _ _ _ _ _ (hs2.mono g.h) ok (by omega) (by omega) (by omega) (by omega) (by omega)) ?_; rintro e w' ⟨rfl, hb'⟩; obtain ⟨g1, rfl⟩ := g.next hb')
          have e : Hid (Sea.leastTo s d fill nom next (k + 1) = Sea.leastTo s d fill nom next k) := least_skip fun h => by rw [Hx.out, hjt] at h; have := h.2.1; omega
          exact ⟨⟨k + 1, by have := Hx.out; omega, int_val (by have := Hx.out; omega), by rw [e.out], by rw [e.out], g1, rfl⟩, by simp [intOf]; omega⟩
      · have e : Hid (Sea.leastTo s d fill nom next (k + 1) = Sea.leastTo s d fill nom next k) := least_skip fun h => hr h.1
        go_wp2_with (go_at_call 78; refine Calls.mono (refBreaks _ s _ _ _ _ _ (hs2.mono g.h) ok (by omega) (by omega) (by omega) (by omega) (by omega)) ?_; rintro e w' ⟨rfl, hb'⟩; obtain ⟨g1, rfl⟩ := g.next hb')
        exact ⟨⟨k + 1, by omega, by go_num, by rw [e.out], by rw [e.out], g1, rfl⟩, by simp [intOf]; omega⟩
    · obtain rfl : k = ((Sea.dayAt s.days d).take + (Sea.dayAt s.days d).offer + 1).toNat := by omega
      go_wp2
      go_ret2
      exact ⟨rfl, hBw.trans (g.h.mono (by omega))⟩
end Go.Proofs.Ytacajmpggjgaiaa
