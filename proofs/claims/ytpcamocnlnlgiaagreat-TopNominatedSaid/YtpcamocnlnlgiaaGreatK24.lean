/- Laws and walks: SW1, SW3, SP1, SP2. -/
import Derived.WalkSpells
import Derived.WalkLawsBesides
import Derived.Laws.StructEq
import Derived.Test.YtpcamocnlnlgiaaGreatK04
import Derived.Test.YtpcamocnlnlgiaaGreatK23
set_option maxRecDepth 100000
set_option maxHeartbeats 16000000
set_option linter.unusedVariables false
set_option linter.unusedSimpArgs false
namespace Go.Proofs.YtpcamocnlnlgiaaGreat.S
open Go.RowKit Go.Sd
theorem bool_ret {a b : Bool} (h : a = b) : Ending.returned (.bool a) = .returned (.bool b) := by rw [h]
theorem int_ret {k : IntKind} {a b : Int} (h : a = b) : Ending.returned (.int k a) = .returned (.int k b) := by rw [h]
theorem refIn (a b c : Int) (w : World) :
    Calls Tryz.prog 27 #[.int .i64 a, .int .i64 b, .int .i64 c] w fun e w' => e = .returned (.bool (Sea.inB a b c)) ∧ w = w' := by
 by_cases h : b ≤ a
 · go_enter Tryz.func27, Tryz.ntmps27
   go_wp2
   go_ret
   exact ⟨by simp [Sea.inB, h], rfl⟩
 · go_enter Tryz.func27, Tryz.ntmps27
   go_wp2
   go_ret
   exact ⟨by simp [Sea.inB]; intro _; omega, rfl⟩
theorem lim_stop (rows : List Sea.Row) (fill : Int) (k : Nat) (h : (Sea.rowAt rows k).fill ≤ fill) : Sea.limTo rows fill (k + 1) = Sea.rowAt rows k := by
 rw [Sea.limTo, if_pos h]
theorem lim_go (rows : List Sea.Row) (fill : Int) (k : Nat) (h : fill < (Sea.rowAt rows k).fill) : Sea.limTo rows fill (k + 1) = Sea.limTo rows fill k := by
 rw [Sea.limTo, if_neg (by omega)]
theorem day_cells {W : World} {dv : Value} {s : Sea.S} {k : Nat} (h : DaysAt W dv s.days) (hk : k < s.days.length) :
    ∃ b off cap, dv = .slice (some ⟨b, off, none⟩) s.days.length cap ∧ b < W.heap.size ∧ s.days.length ≤ 9223372036854775807 ∧ DayCells W b (off + k * 8) (Sea.dayAt s.days k) := by
 obtain ⟨a, cap, rfl, hm, hc⟩ := h
 obtain ⟨b, off, rfl, hlt, hk'⟩ := hc (by omega)
 unfold maxLen at hm
 exact ⟨b, off, cap, rfl, hlt, by omega, hk' k hk⟩
theorem mul_bd {x y : Int} (hx : -100 ≤ x ∧ x ≤ 100) (hy : 0 ≤ y ∧ y ≤ 1000000) : -100000000 ≤ x * y ∧ x * y ≤ 100000000 := by
 obtain ⟨h1, h2⟩ := hx
 obtain ⟨h3, h4⟩ := hy
 constructor
 · have : (-100) * y ≤ x * y := Int.mul_le_mul_of_nonneg_right h1 h3
   omega
 · have : x * y ≤ 100 * y := Int.mul_le_mul_of_nonneg_right h2 h3
   omega
end Go.Proofs.YtpcamocnlnlgiaaGreat.S
namespace Go.Proofs.YtpcamocnlnlgiaaGreat.S
open Go.RowKit Go.Sd
theorem int_cell {W : World} {v : Value} {xs : List Int} (h : IntsAt W v xs) (hn : 0 < xs.length) :
    ∃ b off cap, v = .slice (some ⟨b, off, none⟩) xs.length cap ∧ b < W.heap.size ∧ xs.length ≤ 9223372036854775807 ∧ ∀ k, k < xs.length → W.cell? ⟨b, off + k, none⟩ = some (.int .i64 (Sea.at0 xs k)) := by
 obtain ⟨a, cap, rfl, hm, hc⟩ := h
 obtain ⟨b, off, rfl, hlt, hk'⟩ := hc hn
 unfold maxLen at hm
 exact ⟨b, off, cap, rfl, hlt, by omega, hk'⟩
theorem rule_fine {s : Sea.S} {k : Nat} {fill nom x : Int} (h : s.rule k fill nom x = 1) (hg : 0 ≤ (Sea.dayAt s.days k).glo) (hg' : (Sea.dayAt s.days k).ghi ≤ s.space) : 0 ≤ fill + nom + x ∧ fill + nom + x ≤ s.space := by
 unfold Sea.S.rule at h
 by_cases h1 : (Sea.dayAt s.days k).offer < x; · rw [if_pos h1] at h; omega
 rw [if_neg h1] at h
 by_cases h2 : (Sea.dayAt s.days k).take < -x; · rw [if_pos h2] at h; omega
 rw [if_neg h2] at h
 by_cases h3 : (s.lim fill).inn < nom + x; · rw [if_pos h3] at h; omega
 rw [if_neg h3] at h
 by_cases h4 : (s.lim fill).out < -nom - x; · rw [if_pos h4] at h; omega
 rw [if_neg h4] at h
 by_cases h5 : Sea.inB (fill + nom + x) (Sea.dayAt s.days k).glo (Sea.dayAt s.days k).ghi = false; · rw [if_pos h5] at h; omega
 have := Sea.inB_iff.1 (by simpa using h5 : Sea.inB (fill + nom + x) (Sea.dayAt s.days k).glo (Sea.dayAt s.days k).ghi = true)
 omega
theorem cost_bd {s : Sea.S} (ok : Sea.Ok s) {d : Nat} (hd : d < s.days.length) {x : Int} (hx : -100 ≤ x ∧ x ≤ 100) : -100000000 ≤ s.cost d x ∧ s.cost d x ≤ 100000000 := by
 have hb := ok.days d hd
 unfold Sea.S.cost
 split
 · exact mul_bd hx ⟨by omega, by omega⟩
 · exact mul_bd hx ⟨by omega, by omega⟩
end Go.Proofs.YtpcamocnlnlgiaaGreat.S
set_option linter.unusedVariables false
set_option linter.unusedSimpArgs false
namespace Go.Proofs.YtpcamocnlnlgiaaGreat.S
open Go.RowKit Go.Sd
theorem at0_ext {a b : List Int} (hl : a.length = b.length) (h : ∀ i, i < a.length → Sea.at0 a i = Sea.at0 b i) : a = b := by
 apply List.ext_getElem hl
 intro i h1 h2
 have := h i h1
 simpa [Sea.at0, h1, h2] using this
theorem at0_eq {a : List Int} {i : Nat} (h : i < a.length) : Sea.at0 a i = a[i] := by simp [Sea.at0, h]
theorem refSame (av bv : Value) (a b : List Int) (w : World) (ha : IntsAt w av a) (hb : IntsAt w bv b) :
    Calls Tryz.prog 23 #[av, bv] w fun e w' => e = .returned (.bool (decide (a = b))) ∧ Below w.heap.size w w' := by
 obtain ⟨aa, ac, rfl, ham, hac⟩ := ha
 obtain ⟨ba, bc, rfl, hbm, hbc⟩ := hb
 unfold maxLen at ham hbm
 by_cases hlen : a.length = b.length
 · have Hl := Lib.hid hlen
   have hl1 : a.length ≤ b.length := by omega
   have hl2 : b.length ≤ a.length := by omega
   have hbe : ((a.length : Int) == (b.length : Int)) = true := by rw [hlen]; simp
   have hbn : ((a.length : Int) != (b.length : Int)) = false := by rw [hlen]; simp
   clear hlen
   go_enter Tryz.func23, Tryz.ntmps23
   go_wp2
   go_loopw [5] (fun i wr => ∃ k : Nat, k ≤ a.length ∧ i = .int .i64 k ∧ Hid (∀ j, j < k → Sea.at0 a j = Sea.at0 b j) ∧ ∃ g : Grow w, wr = g.x) (fun i _ => a.length - (intOf i).toNat)
   case atStart => exact ⟨0, by omega, rfl, (fun j h => by omega : ∀ j, j < 0 → Sea.at0 a j = Sea.at0 b j), Grow.self w, rfl⟩
   case round =>
    obtain ⟨k, hk, rfl, hH, g, rfl⟩ := hrel
    by_cases hlt : k < a.length
    · obtain ⟨ab, ao, rfl, hal, hak⟩ := hac (by omega)
      obtain ⟨bb, bo, rfl, hbl, hbk⟩ := hbc (by omega)
      have ca := hak k hlt
      have cb := hbk k (by omega)
      clear hak hbk hac hbc
      have hlt' : (k : Int) < a.length := by omega
      have hlt2 : (k : Int) < b.length := by omega
      have hg := grow_cell w
      go_wp2
      have hgg : ∀ (h : Grow g.x) (b o : Nat), b < w.heap.size → h.x.cell? ⟨b, o, none⟩ = w.cell? ⟨b, o, none⟩ := fun h b o hb => (grow_cell g.x h b o (Nat.lt_of_lt_of_le hb g.size)).trans (grow_cell w g b o hb)
      refine wp_region_grow (by kernel_rfl) (by kernel_rfl) ?_
      repeat (go_big_quiet_step (fail))
      refine wpQuiet_nil ?_
      rintro _ ⟨gx, rfl⟩
      clear hgg
      obtain ⟨g1, hg1⟩ := g.next gx.h
      rw [hg1]
      clear hg1 gx
      go_wp2
      · go_ret
        refine ⟨bool_ret (decide_eq_false fun h => ?_).symm, g1.h⟩
        subst h
        simp_all
      · have h0 := ‹(Sea.at0 a k != Sea.at0 b k) = false›
        have hH' : Hid (∀ j, j < k + 1 → Sea.at0 a j = Sea.at0 b j) := fun j hj => by
         rcases Nat.lt_succ_iff_lt_or_eq.1 hj with h | rfl
         · exact hH.out j h
         · simpa using h0
        exact ⟨⟨k + 1, by omega, by go_num, hH', g1, rfl⟩, by simp [intOf]; omega⟩
    · go_wp2
      go_ret
      refine ⟨bool_ret ?_, g.h⟩
      exact (decide_eq_true (at0_ext Hl.out fun i hi => hH.out i (by omega))).symm
 · go_enter Tryz.func23, Tryz.ntmps23
   go_wp2
   go_ret
   exact ⟨bool_ret (decide_eq_false fun h => hlen (by rw [h])).symm, Below.refl _ _⟩
end Go.Proofs.YtpcamocnlnlgiaaGreat.S
namespace Go.Proofs.YtpcamocnlnlgiaaGreat.S
open Go.RowKit Go.Sd
end Go.Proofs.YtpcamocnlnlgiaaGreat.S
set_option linter.unusedVariables false
set_option linter.unusedSimpArgs false
namespace Go.Proofs.YtpcamocnlnlgiaaGreat.S
open Go.RowKit Go.Sd
structure Kc (w w' : World) : Prop where
 size : w.heap.size ≤ w'.heap.size
 cell : ∀ b o v, w.cell? ⟨b, o, none⟩ = some v → w'.cell? ⟨b, o, none⟩ = some v
theorem Kc.refl (w : World) : Kc w w := ⟨Nat.le_refl _, fun _ _ _ h => h⟩
theorem Kc.trans {a b c : World} (h : Kc a b) (k : Kc b c) : Kc a c := ⟨Nat.le_trans h.size k.size, fun _ _ _ hv => k.cell _ _ _ (h.cell _ _ _ hv)⟩
theorem Kc.of {w w' : World} (h : Below w.heap.size w w') : Kc w w' := ⟨h.size, fun _ _ _ hv => kept_cell h hv⟩
theorem RowsAt.kc {w w' : World} {v : Value} {xs : List Sea.Row} (h : RowsAt w v xs) (hb : Kc w w') : RowsAt w' v xs := by
 obtain ⟨a, cap, rfl, hm, hc⟩ := h
 refine ⟨a, cap, rfl, hm, fun h0 => ?_⟩
 obtain ⟨b, off, rfl, hlt, hk⟩ := hc h0
 exact ⟨b, off, rfl, Nat.lt_of_lt_of_le hlt hb.size, fun k hk' => ⟨hb.cell _ _ _ (hk k hk').1, hb.cell _ _ _ (hk k hk').2.1, hb.cell _ _ _ (hk k hk').2.2⟩⟩
theorem DaysAt.kc {w w' : World} {v : Value} {xs : List Sea.Day} (h : DaysAt w v xs) (hb : Kc w w') : DaysAt w' v xs := by
 obtain ⟨a, cap, rfl, hm, hc⟩ := h
 refine ⟨a, cap, rfl, hm, fun h0 => ?_⟩
 obtain ⟨b, off, rfl, hlt, hk⟩ := hc h0
 refine ⟨b, off, rfl, Nat.lt_of_lt_of_le hlt hb.size, fun k hk' => ?_⟩
 obtain ⟨c0, c1, c2, c3, c4, c5, c6, c7⟩ := hk k hk'
 exact ⟨hb.cell _ _ _ c0, hb.cell _ _ _ c1, hb.cell _ _ _ c2, hb.cell _ _ _ c3, hb.cell _ _ _ c4, hb.cell _ _ _ c5, hb.cell _ _ _ c6, hb.cell _ _ _ c7⟩
theorem SeasonAt.kc {w w' : World} {v : Value} {s : Sea.S} (h : SeasonAt w v s) (hb : Kc w w') : SeasonAt w' v s := by
 obtain ⟨rv, dv, rfl, hr, hd⟩ := h
 exact ⟨rv, dv, rfl, hr.kc hb, hd.kc hb⟩
theorem IntsAt.kc {w w' : World} {v : Value} {xs : List Int} (h : IntsAt w v xs) (hb : Kc w w') : IntsAt w' v xs := by
 obtain ⟨a, cap, rfl, hm, hc⟩ := h
 refine ⟨a, cap, rfl, hm, fun h0 => ?_⟩
 obtain ⟨b, off, rfl, hlt, hk⟩ := hc h0
 exact ⟨b, off, rfl, Nat.lt_of_lt_of_le hlt hb.size, fun k hk' => hb.cell _ _ _ (hk k hk')⟩
def LookAt (w : World) (lv mv : Value) (s : Sea.S) : Prop :=
 ∃ b rv dv, lv = .pointer (some ⟨b, 0, none⟩) ∧
  (w.cell? ⟨b, 0, none⟩ = some (.int .i64 s.space) ∧ w.cell? ⟨b, 1, none⟩ = some (.int .i64 s.start) ∧ w.cell? ⟨b, 2, none⟩ = some (.int .i64 s.elo) ∧
   w.cell? ⟨b, 3, none⟩ = some (.int .i64 s.ehi) ∧ w.cell? ⟨b, 4, none⟩ = some rv ∧ w.cell? ⟨b, 5, none⟩ = some dv ∧ w.cell? ⟨b, 6, none⟩ = some mv) ∧
  b < w.heap.size ∧ RowsAt w rv s.rows ∧ DaysAt w dv s.days
theorem LookAt.kc {w w' : World} {lv mv : Value} {s : Sea.S} (h : LookAt w lv mv s) (hb : Kc w w') : LookAt w' lv mv s := by
 obtain ⟨b, rv, dv, rfl, ⟨c0, c1, c2, c3, c4, c5, c6⟩, hlt, hr, hd⟩ := h
 exact ⟨b, rv, dv, rfl, ⟨hb.cell _ _ _ c0, hb.cell _ _ _ c1, hb.cell _ _ _ c2, hb.cell _ _ _ c3, hb.cell _ _ _ c4, hb.cell _ _ _ c5, hb.cell _ _ _ c6⟩, Nat.lt_of_lt_of_le hlt hb.size, hr.kc hb, hd.kc hb⟩
theorem LookAt.mono {w w' : World} {lv mv : Value} {s : Sea.S} (h : LookAt w lv mv s) (hb : Below w.heap.size w w') : LookAt w' lv mv s := h.kc (.of hb)
abbrev ordV (lv : Value) (day : Nat) (fill nom u : Int) : Value := .agg #[lv, .int .i64 day, .int .i64 fill, .int .i64 nom, .int .i64 u]
abbrev oBox (lv : Value) (day : Nat) (fill nom u : Int) : Obj := .cells #[lv, .int .i64 day, .int .i64 fill, .int .i64 nom, .int .i64 u] 105
theorem box_order {w W : World} {lv : Value} {day : Nat} {fill nom u : Int} (h : w.alloc (oBox lv day fill nom u) = W) :
    w.heap.size < W.heap.size ∧ Below w.heap.size w W ∧
    W.cell? ⟨w.heap.size, 0, none⟩ = some lv ∧ W.cell? ⟨w.heap.size, 1, none⟩ = some (.int .i64 day) ∧
    W.cell? ⟨w.heap.size, 2, none⟩ = some (.int .i64 fill) ∧ W.cell? ⟨w.heap.size, 3, none⟩ = some (.int .i64 nom) ∧ W.cell? ⟨w.heap.size, 4, none⟩ = some (.int .i64 u) := by
 subst h
 refine ⟨by simp, (Below.refl _ _).alloc (Nat.le_refl _) _, ?_, ?_, ?_, ?_, ?_⟩ <;> simp [oBox]
theorem progIn (a b c : Int) (w : World) :
    Calls Tryz.prog 39 #[.int .i64 a, .int .i64 b, .int .i64 c] w fun e w' => e = .returned (.bool (Sea.inB a b c)) ∧ w = w' := by
 by_cases h : b ≤ a
 · go_enter Tryz.func39, Tryz.ntmps39
   go_wp2
   go_ret
   exact ⟨by simp [Sea.inB, h], rfl⟩
 · go_enter Tryz.func39, Tryz.ntmps39
   go_wp2
   go_ret
   exact ⟨by simp [Sea.inB]; intro _; omega, rfl⟩
theorem progBehind (lv : Value) (k : Nat) (fill nom u : Int) (w : World) (b1 : 0 ≤ fill ∧ fill ≤ 100) (b2 : -100 ≤ nom ∧ nom ≤ 100) (b3 : -100 ≤ u ∧ u ≤ 100) :
    Calls Tryz.prog 36 #[ordV lv k fill nom u] w fun e w' => e = .returned (.int .i64 (fill + nom + u)) ∧ Below w.heap.size w w' := by
 go_enter Tryz.func36, Tryz.ntmps36
 go_wp2
 go_ret
 exact ⟨rfl, (Below.refl _ _).alloc (Nat.le_refl _) _⟩
theorem look_box {w W : World} {lv mv : Value} {s : Sea.S} {k : Nat} {fill nom u : Int} (h : w.alloc (oBox lv k fill nom u) = W) (hl : LookAt w lv mv s) (hk : k < s.days.length) :
    ∃ lb rv b off cap, lv = .pointer (some ⟨lb, 0, none⟩) ∧ lb < W.heap.size ∧ b < W.heap.size ∧ w.heap.size < W.heap.size ∧ s.days.length ≤ 9223372036854775807 ∧ (k : Int) < (s.days.length : Int) ∧
     LookAt W (.pointer (some ⟨lb, 0, none⟩)) mv s ∧ Below w.heap.size w W ∧
     (W.cell? ⟨w.heap.size, 0, none⟩ = some (.pointer (some ⟨lb, 0, none⟩)) ∧ W.cell? ⟨w.heap.size, 1, none⟩ = some (.int .i64 k) ∧
      W.cell? ⟨w.heap.size, 2, none⟩ = some (.int .i64 fill) ∧ W.cell? ⟨w.heap.size, 3, none⟩ = some (.int .i64 nom) ∧ W.cell? ⟨w.heap.size, 4, none⟩ = some (.int .i64 u)) ∧
     (W.cell? ⟨lb, 0, none⟩ = some (.int .i64 s.space) ∧ W.cell? ⟨lb, 1, none⟩ = some (.int .i64 s.start) ∧ W.cell? ⟨lb, 2, none⟩ = some (.int .i64 s.elo) ∧
     W.cell? ⟨lb, 3, none⟩ = some (.int .i64 s.ehi) ∧ W.cell? ⟨lb, 4, none⟩ = some rv ∧ W.cell? ⟨lb, 5, none⟩ = some (.slice (some ⟨b, off, none⟩) s.days.length cap)) ∧
     DayCells W b (off + k * 8) (Sea.dayAt s.days k) := by
 obtain ⟨hsz, hB, q⟩ := box_order h
 have hl2 := hl.mono hB
 obtain ⟨lb, rv, dv, rfl, ⟨l0, l1, l2, l3, l4, l5, l6⟩, hlb, hr, hd⟩ := hl
 obtain ⟨b, off, cap, rfl, hlt, hm, c⟩ := day_cells hd hk
 exact ⟨lb, rv, b, off, cap, rfl, Nat.lt_of_lt_of_le hlb hB.size, Nat.lt_of_lt_of_le hlt hB.size, hsz, hm, by omega, hl2, hB, q,
  ⟨kept_cell hB l0, kept_cell hB l1, kept_cell hB l2, kept_cell hB l3, kept_cell hB l4, kept_cell hB l5⟩, DayCells.mono c hB⟩
theorem progBuys (lv mv : Value) (s : Sea.S) (k : Nat) (fill nom u : Int) (w : World) (hl : LookAt w lv mv s) (hk : k < s.days.length) :
    Calls Tryz.prog 127 #[ordV lv k fill nom u] w fun e w' => e = .returned (.bool (decide ((Sea.dayAt s.days k).offer < u))) ∧ Below w.heap.size w w' := by
 go_enter Tryz.func127, Tryz.ntmps127
 go_wp2
 generalize hW : w.alloc (oBox _ k fill nom u) = W
 obtain ⟨lb, rv, b, off, cap, rfl, hlb, hlt, hsz, hm, hk', hl2, hBw, ⟨q0, q1, q2, q3, q4⟩, ⟨l0, l1, l2, l3, l4, l5⟩, ⟨c0, c1, c2, c3, c4, c5, c6, c7⟩⟩ := look_box hW hl hk
 clear hW
 go_quiet (fail)
 go_wp2
 go_ret
 exact ⟨rfl, below_drewN hBw _⟩
theorem progSells (lv mv : Value) (s : Sea.S) (k : Nat) (fill nom u : Int) (w : World) (hl : LookAt w lv mv s) (hk : k < s.days.length) (b3 : -100 ≤ u ∧ u ≤ 100) :
    Calls Tryz.prog 128 #[ordV lv k fill nom u] w fun e w' => e = .returned (.bool (decide ((Sea.dayAt s.days k).take < -u))) ∧ Below w.heap.size w w' := by
 go_enter Tryz.func128, Tryz.ntmps128
 go_wp2
 generalize hW : w.alloc (oBox _ k fill nom u) = W
 obtain ⟨lb, rv, b, off, cap, rfl, hlb, hlt, hsz, hm, hk', hl2, hBw, ⟨q0, q1, q2, q3, q4⟩, ⟨l0, l1, l2, l3, l4, l5⟩, ⟨c0, c1, c2, c3, c4, c5, c6, c7⟩⟩ := look_box hW hl hk
 clear hW
 go_quiet (fail)
 go_wp2
 go_ret
 exact ⟨rfl, below_drewN hBw _⟩
abbrev rowO (r : Sea.Row) : Obj := .cells #[.int .i64 r.fill, .int .i64 r.inn, .int .i64 r.out] 37
theorem set3 {w : World} {n : Nat} {a b c : Value} {e : TypeId} (h : w.heap[n]? = some (.cells #[a, b, c] e)) (a' b' c' : Value) :
    (((w.setCell ⟨n, 0, none⟩ a').setCell ⟨n, 1, none⟩ b').setCell ⟨n, 2, none⟩ c').heap[n]? = some (.cells #[a', b', c'] e) := by
 simp only [World.setCell, Array.getElem?_modify, if_true, h]
 rfl
theorem progLimits (lv mv : Value) (s : Sea.S) (fill : Int) (w : World) (hl : LookAt w lv mv s) (hn : 0 < s.rows.length) (h0 : (Sea.rowAt s.rows 0).fill ≤ fill) :
    Calls Tryz.prog 138 #[lv, .int .i64 fill] w fun e w' => e = .returned (rowV (s.lim fill)) ∧ Below w.heap.size w w' := by
 obtain ⟨lb, rv, dv, rfl, ⟨l0, l1, l2, l3, l4, l5, l6⟩, hlb, ⟨ra, rcap, rfl, hrm, hrk⟩, hd⟩ := hl
 obtain ⟨b, off, rfl, hlt, hk⟩ := hrk hn
 clear hrk hd
 obtain ⟨c0, c1, c2⟩ := hk 0 hn
 unfold maxLen at hrm
 rw [Nat.zero_mul, Nat.add_zero] at c0 c1 c2
 go_enter Tryz.func138, Tryz.ntmps138
 go_wp2
 go_loopw [21] (fun i wr => ∃ k : Nat, k ≤ s.rows.length ∧ i = .int .i64 k ∧ Hid (∃ r, r = Sea.limTo s.rows fill k ∧ wr.heap[w.heap.size + 1]? = some (rowO r) ∧ wr.heap[w.heap.size]? = some (rowO ⟨0, 0, 0⟩) ∧ Below w.heap.size w wr)) (fun i _ => s.rows.length - (intOf i).toNat)
 case atStart =>
  exact ⟨0, by omega, rfl, _, rfl, by have := World.alloc_heap_new (w.alloc (rowO ⟨0, 0, 0⟩)) (rowO (Sea.limTo s.rows fill 0)); rwa [World.size_alloc] at this,
   (Below.heap_alloc _ _ _ (by simp)).trans (World.alloc_heap_new w _), ((Below.refl _ _).alloc (Nat.le_refl _) _).alloc (by simp) _⟩
 case round =>
  obtain ⟨k, hkn, rfl, hH⟩ := hrel
  obtain ⟨r, hr, h5, h4, hB⟩ := hH.out
  clear hH
  obtain ⟨z5, d5, f5⟩ := row_cells h5
  obtain ⟨z4, d4, f4⟩ := row_cells h4
  have e0 := d5 0
  have e1 := d5 1
  have e2 := d5 2
  have e3 := d4 0
  have e4 := d4 1
  have e5 := d4 2
  simp only [rowO, List.getElem?_toArray, List.getElem?_cons_zero, List.getElem?_cons_succ] at e0 e1 e2 e3 e4 e5
  replace hr := Lib.hid hr
  clear d4 d5
  by_cases hkl : k < s.rows.length
  · obtain ⟨c0, c1, c2⟩ := RowCells.mono (hk k hkl) hB
    have hlt' : (k : Int) < (s.rows.length : Int) := by omega
    have hltb : b < wr.heap.size := Nat.lt_of_lt_of_le hlt hB.size
    by_cases hf : (Sea.rowAt s.rows k).fill ≤ fill
    · go_wp2
      have h5' := set3 h5 (.int .i64 (Sea.rowAt s.rows k).fill) (.int .i64 (Sea.rowAt s.rows k).inn) (.int .i64 (Sea.rowAt s.rows k).out)
      have hB' := ((hB.setCell (p := ⟨w.heap.size + 1, 0, none⟩) (by simp) (.int .i64 (Sea.rowAt s.rows k).fill)).setCell (p := ⟨w.heap.size + 1, 1, none⟩) (by simp) (.int .i64 (Sea.rowAt s.rows k).inn)).setCell (p := ⟨w.heap.size + 1, 2, none⟩) (by simp) (.int .i64 (Sea.rowAt s.rows k).out)
      refine ⟨⟨k + 1, by omega, by go_num, ⟨_, (lim_stop s.rows fill k hf).symm, ?_, ?_, hB'.alloc hB'.size _⟩⟩, by simp [intOf]; omega⟩
      · exact (Below.heap_alloc _ _ _ (zqo h5')).trans h5'
      · exact (Below.heap_alloc _ _ _ (by have := hB'.size; have := (zqo h5'); omega)).trans
         (((Below.heap_setCell _ _ _ _ (by simp)).trans ((Below.heap_setCell _ _ _ _ (by simp)).trans (Below.heap_setCell _ _ _ _ (by simp)))).trans h4)
    · go_wp2
      exact ⟨⟨k + 1, by omega, by go_num, ⟨r, by rw [lim_go s.rows fill k (by omega)]; exact hr.out, (Below.heap_alloc _ _ _ z5).trans h5, (Below.heap_alloc _ _ _ z4).trans h4, hB.alloc hB.size _⟩⟩, by simp [intOf]; omega⟩
  · have hkn' : ¬ (k : Int) < (s.rows.length : Int) := by omega
    have hke : k = s.rows.length := by omega
    replace hke := Lib.hid hke
    go_wp2
    have hB' := ((hB.setCell (p := ⟨w.heap.size, 0, none⟩) (by simp) (.int .i64 r.fill)).setCell (p := ⟨w.heap.size, 1, none⟩) (by simp) (.int .i64 r.inn)).setCell (p := ⟨w.heap.size, 2, none⟩) (by simp) (.int .i64 r.out)
    obtain ⟨-, d, -⟩ := row_cells (set3 h4 (.int .i64 r.fill) (.int .i64 r.inn) (.int .i64 r.out))
    have g0 := d 0
    have g1 := d 1
    have g2 := d 2
    simp only [rowO, List.getElem?_toArray, List.getElem?_cons_zero, List.getElem?_cons_succ] at g0 g1 g2
    clear d
    generalize ((wr.setCell ⟨w.heap.size, 0, none⟩ (.int .i64 r.fill)).setCell ⟨w.heap.size, 1, none⟩ (.int .i64 r.inn)).setCell ⟨w.heap.size, 2, none⟩ (.int .i64 r.out) = W' at g0 g1 g2 hB'
    exact bodyPost_ret (v := rowV r) (by simp [results, Tryz.results138, go_sem, rowV, g0, g1, g2]) rfl ⟨by rw [hr.out, hke.out]; rfl, hB'⟩
end Go.Proofs.YtpcamocnlnlgiaaGreat.S
set_option linter.unusedVariables false
set_option linter.unusedSimpArgs false
namespace Go.Proofs.YtpcamocnlnlgiaaGreat.S
open Go.RowKit Go.Sd
theorem row_field (a b c : Value) (w : World) : (Instr.field 37 (.agg #[a, b, c]) 1).run Tryz.prog w = .ok b w ∧ (Instr.field 37 (.agg #[a, b, c]) 2).run Tryz.prog w = .ok c w := ⟨by kernel_rfl, by kernel_rfl⟩
theorem progComes (lv mv : Value) (s : Sea.S) (k : Nat) (fill nom u : Int) (w : World) (hl : LookAt w lv mv s) (hk : k < s.days.length) (ok : Sea.Ok s) (b1 : 0 ≤ fill ∧ fill ≤ 100) (b2 : -100 ≤ nom ∧ nom ≤ 100) (b3 : -100 ≤ u ∧ u ≤ 100) :
    Calls Tryz.prog 129 #[ordV lv k fill nom u] w fun e w' => e = .returned (.bool (decide ((s.lim fill).inn < nom + u))) ∧ Below w.heap.size w w' := by
 go_enter Tryz.func129, Tryz.ntmps129
 go_wp2
 generalize hW : w.alloc (oBox _ k fill nom u) = W
 obtain ⟨lb, rv, b, off, cap, rfl, hlb, hlt, hsz, hm, hk', hl2, hBw, ⟨q0, q1, q2, q3, q4⟩, ⟨l0, l1, l2, l3, l4, l5⟩, ⟨c0, c1, c2, c3, c4, c5, c6, c7⟩⟩ := look_box hW hl hk
 clear hW
 have hg := grow_cell W
 have hfd := row_field (.int .i64 (s.lim fill).fill) (.int .i64 (s.lim fill).inn) (.int .i64 (s.lim fill).out)
 have hf1 := fun w => (hfd w).1
 have hf2 := fun w => (hfd w).2
 clear hfd
 refine wp_region_grow (by kernel_rfl) (by kernel_rfl) ?_
 repeat (go_big_quiet_step ((first | (go_at_call 138; exact Calls.grow (v := .agg #[.int .i64 (s.lim fill).fill, .int .i64 (s.lim fill).inn, .int .i64 (s.lim fill).out]) (progLimits _ mv s fill _ (hl2.mono (Grow.h _)) ok.nrows.1 (by have := ok.row0; omega))))))
 refine wpQuiet_nil ?_
 rintro _ ⟨g, rfl⟩
 go_wp2
 go_ret
 exact ⟨rfl, hBw.trans (g.h.mono hBw.size)⟩
theorem progGoes (lv mv : Value) (s : Sea.S) (k : Nat) (fill nom u : Int) (w : World) (hl : LookAt w lv mv s) (hk : k < s.days.length) (ok : Sea.Ok s) (b1 : 0 ≤ fill ∧ fill ≤ 100) (b2 : -100 ≤ nom ∧ nom ≤ 100) (b3 : -100 ≤ u ∧ u ≤ 100) :
    Calls Tryz.prog 130 #[ordV lv k fill nom u] w fun e w' => e = .returned (.bool (decide ((s.lim fill).out < -nom - u))) ∧ Below w.heap.size w w' := by
 go_enter Tryz.func130, Tryz.ntmps130
 go_wp2
 generalize hW : w.alloc (oBox _ k fill nom u) = W
 obtain ⟨lb, rv, b, off, cap, rfl, hlb, hlt, hsz, hm, hk', hl2, hBw, ⟨q0, q1, q2, q3, q4⟩, ⟨l0, l1, l2, l3, l4, l5⟩, ⟨c0, c1, c2, c3, c4, c5, c6, c7⟩⟩ := look_box hW hl hk
 clear hW
 have hg := grow_cell W
 have hfd := row_field (.int .i64 (s.lim fill).fill) (.int .i64 (s.lim fill).inn) (.int .i64 (s.lim fill).out)
 have hf1 := fun w => (hfd w).1
 have hf2 := fun w => (hfd w).2
 clear hfd
 refine wp_region_grow (by kernel_rfl) (by kernel_rfl) ?_
 repeat (go_big_quiet_step ((first | (go_at_call 138; exact Calls.grow (v := .agg #[.int .i64 (s.lim fill).fill, .int .i64 (s.lim fill).inn, .int .i64 (s.lim fill).out]) (progLimits _ mv s fill _ (hl2.mono (Grow.h _)) ok.nrows.1 (by have := ok.row0; omega))))))
 refine wpQuiet_nil ?_
 rintro _ ⟨g, rfl⟩
 go_wp2
 go_ret
 exact ⟨rfl, hBw.trans (g.h.mono hBw.size)⟩
theorem progGate (lv mv : Value) (s : Sea.S) (k : Nat) (fill nom u : Int) (w : World) (hl : LookAt w lv mv s) (hk : k < s.days.length) (b1 : 0 ≤ fill ∧ fill ≤ 100) (b2 : -100 ≤ nom ∧ nom ≤ 100) (b3 : -100 ≤ u ∧ u ≤ 100) :
    Calls Tryz.prog 131 #[ordV lv k fill nom u] w fun e w' => e = .returned (.bool (!Sea.inB (fill + nom + u) (Sea.dayAt s.days k).glo (Sea.dayAt s.days k).ghi)) ∧ Below w.heap.size w w' := by
 go_enter Tryz.func131, Tryz.ntmps131
 go_wp2
 generalize hW : w.alloc (oBox _ k fill nom u) = W
 obtain ⟨lb, rv, b, off, cap, rfl, hlb, hlt, hsz, hm, hk', hl2, hBw, ⟨q0, q1, q2, q3, q4⟩, ⟨l0, l1, l2, l3, l4, l5⟩, ⟨c0, c1, c2, c3, c4, c5, c6, c7⟩⟩ := look_box hW hl hk
 clear hW
 refine wp_region_vars growth_below (va := [⟨12, 3, 23, #[.int .i64 0, .int .i64 0], 13, .tmp 15⟩]) (by kernel_rfl) (by kernel_rfl) ?_ ?_ (by simp) (fun T f hT hf hcl => ?_)
 · intro p hp w
   simp only [List.mem_cons, List.not_mem_nil, or_false] at hp
   rcases hp with rfl <;> go_simp
 · intro p hp
   simp only [List.mem_cons, List.not_mem_nil, or_false] at hp
   rcases hp with rfl <;> kernel_rfl
 have hg : ∀ (g : T) (b o : Nat), b < W.heap.size → (f g).cell? ⟨b, o, none⟩ = W.cell? ⟨b, o, none⟩ := fun g => below_cell (hf g)
 simp only [lexOf, List.zipIdx_cons, List.zipIdx_nil, List.map_cons, List.map_nil, isMade, List.any_cons, List.any_nil, Nat.reduceAdd, Nat.reduceBEq, Bool.or_false, Bool.false_or, Bool.or_self, Bool.false_eq_true, if_false, if_true, Nat.zero_add, BEq.rfl, Bool.or_true, Bool.true_or]
 simp only [Go.Sd.blank]
 repeat (go_big_quiet_step (fail))
 refine wpQuiet_nil ?_
 refine ⟨?_, ?_⟩
 · intro p hp
   simp only [List.mem_cons, List.not_mem_nil, or_false] at hp
   rcases hp with rfl <;> (constructor <;> simp [go_sem, Value.cells, Value.oneCell'])
 intro ns w' hB hv
 obtain ⟨n1, rfl, hn1, hl1, hc1, hf1⟩ := vars_one hv
 clear hv hf hcl hg
 simp only [placeV, Act.put, List.setIfInBounds_toArray, List.set_cons_zero, List.set_cons_succ]
 simp [go_sem] at hc1
 have hB' : Below w.heap.size w w' := hBw.trans (hB.mono hBw.size)
 have hcc := below_cell hB
 have hg := grow_cell w'
 have hsw := hB.size
 have hsw1 : w.heap.size < w'.heap.size := by omega
 have hsw2 : lb < w'.heap.size := by omega
 go_wp2
 refine wp_region_grow (by kernel_rfl) (by kernel_rfl) ?_
 repeat (go_big_quiet_step ((first | (go_at_call 36; exact Calls.grow (progBehind _ _ _ _ _ _ b1 b2 b3)) | (go_at_call 39; exact Calls.grow_same (progIn _ _ _ _)))))
 refine wpQuiet_nil ?_
 rintro _ ⟨g, rfl⟩
 go_wp2
 go_ret
 exact ⟨rfl, hB'.trans (g.h.mono hB'.size)⟩
theorem progEnd (lv mv : Value) (s : Sea.S) (k : Nat) (fill nom u : Int) (w : World) (hl : LookAt w lv mv s) (hk : k < s.days.length) (b1 : 0 ≤ fill ∧ fill ≤ 100) (b2 : -100 ≤ nom ∧ nom ≤ 100) (b3 : -100 ≤ u ∧ u ≤ 100) :
    Calls Tryz.prog 132 #[ordV lv k fill nom u] w fun e w' => e = .returned (.bool (decide ((k : Int) = (s.days.length : Int) - 1) && !Sea.inB (fill + nom + u) s.elo s.ehi)) ∧ Below w.heap.size w w' := by
 go_enter Tryz.func132, Tryz.ntmps132
 go_wp2
 generalize hW : w.alloc (oBox _ k fill nom u) = W
 obtain ⟨lb, rv, b, off, cap, rfl, hlb, hlt, hsz, hm, hk', hl2, hBw, ⟨q0, q1, q2, q3, q4⟩, ⟨l0, l1, l2, l3, l4, l5⟩, ⟨c0, c1, c2, c3, c4, c5, c6, c7⟩⟩ := look_box hW hl hk
 clear hW
 by_cases he : (k : Int) = (s.days.length : Int) - 1
 · have he' : ((k : Int) == (s.days.length : Int) - 1) = true := by rw [he]; simp
   replace he := Lib.hid he
   have hg := grow_cell W
   refine wp_region_grow (by kernel_rfl) (by kernel_rfl) ?_
   repeat (go_big_quiet_step ((first | (go_at_call 36; exact Calls.grow (progBehind _ _ _ _ _ _ b1 b2 b3)) | (go_at_call 39; exact Calls.grow_same (progIn _ _ _ _)))))
   refine wpQuiet_nil ?_
   rintro _ ⟨g, rfl⟩
   go_wp2
   go_ret
   exact ⟨bool_ret (by simp [he.out]), hBw.trans (g.h.mono hBw.size)⟩
 · have he' : ((k : Int) == (s.days.length : Int) - 1) = false := by simp [he]
   replace he := Lib.hid he
   have hg := grow_cell W
   refine wp_region_grow (by kernel_rfl) (by kernel_rfl) ?_
   repeat (go_big_quiet_step ((first | (go_at_call 36; exact Calls.grow (progBehind _ _ _ _ _ _ b1 b2 b3)) | (go_at_call 39; exact Calls.grow_same (progIn _ _ _ _)))))
   refine wpQuiet_nil ?_
   rintro _ ⟨g, rfl⟩
   go_wp2
   go_ret
   exact ⟨bool_ret (by simp [he.out]), hBw.trans (g.h.mono hBw.size)⟩
theorem progCost (lv mv : Value) (s : Sea.S) (k : Nat) (fill nom u : Int) (w : World) (hl : LookAt w lv mv s) (hk : k < s.days.length) (ok : Sea.Ok s) (b3 : -100 ≤ u ∧ u ≤ 100) :
    Calls Tryz.prog 41 #[ordV lv k fill nom u] w fun e w' => e = .returned (.int .i64 (s.cost k u)) ∧ Below w.heap.size w w' := by
 go_enter Tryz.func41, Tryz.ntmps41
 go_wp2
 generalize hW : w.alloc (oBox _ k fill nom u) = W
 obtain ⟨lb, rv, b, off, cap, rfl, hlb, hlt, hsz, hm, hk', hl2, hBw, ⟨q0, q1, q2, q3, q4⟩, ⟨l0, l1, l2, l3, l4, l5⟩, ⟨c0, c1, c2, c3, c4, c5, c6, c7⟩⟩ := look_box hW hl hk
 clear hW
 refine wp_region_vars growth_below (va := [⟨11, 3, 39, #[.int .i64 0, .int .i64 0, .int .i64 0, .int .i64 0, .int .i64 0, .int .i64 0, .int .i64 0, .int .i64 0], 12, .tmp 14⟩]) (by kernel_rfl) (by kernel_rfl) ?_ ?_ (by simp) (fun T f hT hf hcl => ?_)
 · intro p hp w
   simp only [List.mem_cons, List.not_mem_nil, or_false] at hp
   rcases hp with rfl <;> go_simp
 · intro p hp
   simp only [List.mem_cons, List.not_mem_nil, or_false] at hp
   rcases hp with rfl <;> kernel_rfl
 have hg : ∀ (g : T) (b o : Nat), b < W.heap.size → (f g).cell? ⟨b, o, none⟩ = W.cell? ⟨b, o, none⟩ := fun g => below_cell (hf g)
 simp only [lexOf, List.zipIdx_cons, List.zipIdx_nil, List.map_cons, List.map_nil, isMade, List.any_cons, List.any_nil, Nat.reduceAdd, Nat.reduceBEq, Bool.or_false, Bool.false_or, Bool.or_self, Bool.false_eq_true, if_false, if_true, Nat.zero_add, BEq.rfl, Bool.or_true, Bool.true_or]
 simp only [Go.Sd.blank]
 repeat (go_big_quiet_step (fail))
 refine wpQuiet_nil ?_
 refine ⟨?_, ?_⟩
 · intro p hp
   simp only [List.mem_cons, List.not_mem_nil, or_false] at hp
   rcases hp with rfl <;> (constructor <;> simp [go_sem, Value.cells, Value.oneCell'])
 intro ns w' hB hv
 obtain ⟨n1, rfl, hn1, hl1, hc1, hf1⟩ := vars_one hv
 clear hv hf hcl hg
 simp only [placeV, Act.put, List.setIfInBounds_toArray, List.set_cons_zero, List.set_cons_succ]
 simp [go_sem] at hc1
 have hB' : Below w.heap.size w w' := hBw.trans (hB.mono hBw.size)
 have hcc := below_cell hB
 have hb := ok.days k (by omega)
 have p1 := mul_bd b3 ⟨hb.1, hb.2.1⟩
 have p2 := mul_bd b3 ⟨hb.2.2.1, hb.2.2.2.1⟩
 have p3 : u ≠ 0 ∨ (u * (Sea.dayAt s.days k).buy = 0 ∧ u * (Sea.dayAt s.days k).sell = 0) := by
  by_cases h : u = 0
  · exact .inr ⟨by rw [h, Int.zero_mul], by rw [h, Int.zero_mul]⟩
  · exact .inl h
 rw [Int.mul_comm] at p1 p2
 simp only [Int.mul_comm u] at p1 p2 p3
 have P := Lib.hid (And.intro p1 (And.intro p2 p3))
 clear p1 p2 p3 hb
 go_wp2
 all_goals
  go_ret
  refine ⟨int_ret ?_, hB'⟩
  obtain ⟨p1, p2, p3⟩ := P.out
  simp (disch := omega) only [IntWalk.wrap64_in, Int.mul_neg]
  unfold Sea.S.cost
  simp only [Int.mul_comm u]
  split <;> omega
end Go.Proofs.YtpcamocnlnlgiaaGreat.S
