/- Walks: the program's small functions on a season that is looked at, and on an order. -/
import Derived.Test.YtacajmpggjgaiaaW3
import Derived.Test.YtacajmpggjgaiaaVars
set_option linter.unusedVariables false
set_option linter.unusedSimpArgs false
namespace Go.Proofs.Ytacajmpggjgaiaa
open Go.RowKit Go.Sd

/-- All cells that lay hold what they held. -/
structure Kc (w w' : World) : Prop where
  size : w.heap.size ≤ w'.heap.size
  cell : ∀ b o v, w.cell? ⟨b, o, none⟩ = some v → w'.cell? ⟨b, o, none⟩ = some v

theorem Kc.refl (w : World) : Kc w w := ⟨Nat.le_refl _, fun _ _ _ h => h⟩
theorem Kc.trans {a b c : World} (h : Kc a b) (k : Kc b c) : Kc a c := ⟨Nat.le_trans h.size k.size, fun _ _ _ hv => k.cell _ _ _ (h.cell _ _ _ hv)⟩
theorem Kc.of {w w' : World} (h : Below w.heap.size w w') : Kc w w' := ⟨h.size, fun _ _ _ hv => kept_cell h hv⟩

theorem RowsAt.kc {w w' : World} {v : Value} {xs : List Sea.Row} (h : RowsAt w v xs) (hb : Kc w w') : RowsAt w' v xs := by
  obtain ⟨a, cap, rfl, hm, hc⟩ := h
  refine ⟨a, cap, rfl, hm, fun h0 => ?_⟩
  obtain ⟨b, off, rfl, hlt, hk⟩ := hc h0
  exact ⟨b, off, rfl, Nat.lt_of_lt_of_le hlt hb.size, fun k hk' => ⟨hb.cell _ _ _ (hk k hk').1, hb.cell _ _ _ (hk k hk').2.1, hb.cell _ _ _ (hk k hk').2.2⟩⟩
theorem DaysAt.kc {w w' : World} {v : Value} {xs : List Sea.Day} (h : DaysAt w v xs) (hb : Kc w w') : DaysAt w' v xs := by
  obtain ⟨a, cap, rfl, hm, hc⟩ := h
  refine ⟨a, cap, rfl, hm, fun h0 => ?_⟩
  obtain ⟨b, off, rfl, hlt, hk⟩ := hc h0
  refine ⟨b, off, rfl, Nat.lt_of_lt_of_le hlt hb.size, fun k hk' => ?_⟩
  obtain ⟨c0, c1, c2, c3, c4, c5, c6, c7⟩ := hk k hk'
  exact ⟨hb.cell _ _ _ c0, hb.cell _ _ _ c1, hb.cell _ _ _ c2, hb.cell _ _ _ c3, hb.cell _ _ _ c4, hb.cell _ _ _ c5, hb.cell _ _ _ c6, hb.cell _ _ _ c7⟩
theorem SeasonAt.kc {w w' : World} {v : Value} {s : Sea.S} (h : SeasonAt w v s) (hb : Kc w w') : SeasonAt w' v s := by
  obtain ⟨rv, dv, rfl, hr, hd⟩ := h
  exact ⟨rv, dv, rfl, hr.kc hb, hd.kc hb⟩
theorem IntsAt.kc {w w' : World} {v : Value} {xs : List Int} (h : IntsAt w v xs) (hb : Kc w w') : IntsAt w' v xs := by
  obtain ⟨a, cap, rfl, hm, hc⟩ := h
  refine ⟨a, cap, rfl, hm, fun h0 => ?_⟩
  obtain ⟨b, off, rfl, hlt, hk⟩ := hc h0
  exact ⟨b, off, rfl, Nat.lt_of_lt_of_le hlt hb.size, fun k hk' => hb.cell _ _ _ (hk k hk')⟩

/-- A season that is looked at, with what is known of it. -/
def LookAt (w : World) (lv mv : Value) (s : Sea.S) : Prop :=
  ∃ b rv dv, lv = .pointer (some ⟨b, 0, none⟩) ∧
    (w.cell? ⟨b, 0, none⟩ = some (.int .i64 s.space) ∧ w.cell? ⟨b, 1, none⟩ = some (.int .i64 s.start) ∧ w.cell? ⟨b, 2, none⟩ = some (.int .i64 s.elo) ∧
      w.cell? ⟨b, 3, none⟩ = some (.int .i64 s.ehi) ∧ w.cell? ⟨b, 4, none⟩ = some rv ∧ w.cell? ⟨b, 5, none⟩ = some dv ∧ w.cell? ⟨b, 6, none⟩ = some mv) ∧
    b < w.heap.size ∧ RowsAt w rv s.rows ∧ DaysAt w dv s.days

theorem LookAt.kc {w w' : World} {lv mv : Value} {s : Sea.S} (h : LookAt w lv mv s) (hb : Kc w w') : LookAt w' lv mv s := by
  obtain ⟨b, rv, dv, rfl, ⟨c0, c1, c2, c3, c4, c5, c6⟩, hlt, hr, hd⟩ := h
  exact ⟨b, rv, dv, rfl, ⟨hb.cell _ _ _ c0, hb.cell _ _ _ c1, hb.cell _ _ _ c2, hb.cell _ _ _ c3, hb.cell _ _ _ c4, hb.cell _ _ _ c5, hb.cell _ _ _ c6⟩, Nat.lt_of_lt_of_le hlt hb.size, hr.kc hb, hd.kc hb⟩
theorem LookAt.mono {w w' : World} {lv mv : Value} {s : Sea.S} (h : LookAt w lv mv s) (hb : Below w.heap.size w w') : LookAt w' lv mv s := h.kc (.of hb)

/-- An order as a value. -/
abbrev ordV (lv : Value) (day : Nat) (fill nom u : Int) : Value := .agg #[lv, .int .i64 day, .int .i64 fill, .int .i64 nom, .int .i64 u]
abbrev oBox (lv : Value) (day : Nat) (fill nom u : Int) : Obj := .cells #[lv, .int .i64 day, .int .i64 fill, .int .i64 nom, .int .i64 u] 93

theorem box_order {w W : World} {lv : Value} {day : Nat} {fill nom u : Int} (h : w.alloc (oBox lv day fill nom u) = W) :
    w.heap.size < W.heap.size ∧ Below w.heap.size w W ∧
    W.cell? ⟨w.heap.size, 0, none⟩ = some lv ∧ W.cell? ⟨w.heap.size, 1, none⟩ = some (.int .i64 day) ∧
    W.cell? ⟨w.heap.size, 2, none⟩ = some (.int .i64 fill) ∧ W.cell? ⟨w.heap.size, 3, none⟩ = some (.int .i64 nom) ∧ W.cell? ⟨w.heap.size, 4, none⟩ = some (.int .i64 u) := by
  subst h
  refine ⟨by simp, (Below.refl _ _).alloc (Nat.le_refl _) _, ?_, ?_, ?_, ?_, ?_⟩ <;> simp [oBox]

set_option maxHeartbeats 400000 in
theorem progIn (a b c : Int) (w : World) :
    Calls Try.prog 68 #[.int .i64 a, .int .i64 b, .int .i64 c] w fun e w' => e = .returned (.bool (Sea.inB a b c)) ∧ w = w' := by
  by_cases h : b ≤ a
  · go_enter Try.func68, Try.ntmps68
    go_wp2
    go_ret
    exact ⟨by simp [Sea.inB, h], rfl⟩
  · go_enter Try.func68, Try.ntmps68
    go_wp2
    go_ret
    exact ⟨by simp [Sea.inB]; intro _; omega, rfl⟩

set_option maxHeartbeats 400000 in
theorem progBehind (lv : Value) (k : Nat) (fill nom u : Int) (w : World) (b1 : 0 ≤ fill ∧ fill ≤ 100) (b2 : -100 ≤ nom ∧ nom ≤ 100) (b3 : -100 ≤ u ∧ u ≤ 100) :
    Calls Try.prog 58 #[ordV lv k fill nom u] w fun e w' => e = .returned (.int .i64 (fill + nom + u)) ∧ Below w.heap.size w w' := by
  go_enter Try.func58, Try.ntmps58
  go_wp2
  go_ret
  exact ⟨rfl, (Below.refl _ _).alloc (Nat.le_refl _) _⟩

/-- An order in a box of its own, in the world that the box has made. -/
theorem look_box {w W : World} {lv mv : Value} {s : Sea.S} {k : Nat} {fill nom u : Int} (h : w.alloc (oBox lv k fill nom u) = W) (hl : LookAt w lv mv s) (hk : k < s.days.length) :
    ∃ lb rv b off cap, lv = .pointer (some ⟨lb, 0, none⟩) ∧ lb < W.heap.size ∧ b < W.heap.size ∧ w.heap.size < W.heap.size ∧ s.days.length ≤ 9223372036854775807 ∧ (k : Int) < (s.days.length : Int) ∧
      LookAt W (.pointer (some ⟨lb, 0, none⟩)) mv s ∧ Below w.heap.size w W ∧
      (W.cell? ⟨w.heap.size, 0, none⟩ = some (.pointer (some ⟨lb, 0, none⟩)) ∧ W.cell? ⟨w.heap.size, 1, none⟩ = some (.int .i64 k) ∧
        W.cell? ⟨w.heap.size, 2, none⟩ = some (.int .i64 fill) ∧ W.cell? ⟨w.heap.size, 3, none⟩ = some (.int .i64 nom) ∧ W.cell? ⟨w.heap.size, 4, none⟩ = some (.int .i64 u)) ∧
      (W.cell? ⟨lb, 0, none⟩ = some (.int .i64 s.space) ∧ W.cell? ⟨lb, 1, none⟩ = some (.int .i64 s.start) ∧ W.cell? ⟨lb, 2, none⟩ = some (.int .i64 s.elo) ∧
      W.cell? ⟨lb, 3, none⟩ = some (.int .i64 s.ehi) ∧ W.cell? ⟨lb, 4, none⟩ = some rv ∧ W.cell? ⟨lb, 5, none⟩ = some (.slice (some ⟨b, off, none⟩) s.days.length cap)) ∧
      DayCells W b (off + k * 8) (Sea.dayAt s.days k) := by
  obtain ⟨hsz, hB, q⟩ := box_order h
  have hl2 := hl.mono hB
  obtain ⟨lb, rv, dv, rfl, ⟨l0, l1, l2, l3, l4, l5, l6⟩, hlb, hr, hd⟩ := hl
  obtain ⟨b, off, cap, rfl, hlt, hm, c⟩ := day_cells hd hk
  exact ⟨lb, rv, b, off, cap, rfl, Nat.lt_of_lt_of_le hlb hB.size, Nat.lt_of_lt_of_le hlt hB.size, hsz, hm, by omega, hl2, hB, q,
    ⟨kept_cell hB l0, kept_cell hB l1, kept_cell hB l2, kept_cell hB l3, kept_cell hB l4, kept_cell hB l5⟩, DayCells.mono c hB⟩

set_option maxHeartbeats 1000000 in
theorem progBuys (lv mv : Value) (s : Sea.S) (k : Nat) (fill nom u : Int) (w : World) (hl : LookAt w lv mv s) (hk : k < s.days.length) :
    Calls Try.prog 95 #[ordV lv k fill nom u] w fun e w' => e = .returned (.bool (decide ((Sea.dayAt s.days k).offer < u))) ∧ Below w.heap.size w w' := by
  go_enter Try.func95, Try.ntmps95
  go_wp2
  generalize hW : w.alloc (oBox _ k fill nom u) = W
  obtain ⟨lb, rv, b, off, cap, rfl, hlb, hlt, hsz, hm, hk', hl2, hBw, ⟨q0, q1, q2, q3, q4⟩, ⟨l0, l1, l2, l3, l4, l5⟩, ⟨c0, c1, c2, c3, c4, c5, c6, c7⟩⟩ := look_box hW hl hk
  clear hW
  go_quiet (fail)
  go_wp2
  go_ret
  exact ⟨rfl, below_drewN hBw _⟩

set_option maxHeartbeats 1000000 in
theorem progSells (lv mv : Value) (s : Sea.S) (k : Nat) (fill nom u : Int) (w : World) (hl : LookAt w lv mv s) (hk : k < s.days.length) (b3 : -100 ≤ u ∧ u ≤ 100) :
    Calls Try.prog 96 #[ordV lv k fill nom u] w fun e w' => e = .returned (.bool (decide ((Sea.dayAt s.days k).take < -u))) ∧ Below w.heap.size w w' := by
  go_enter Try.func96, Try.ntmps96
  go_wp2
  generalize hW : w.alloc (oBox _ k fill nom u) = W
  obtain ⟨lb, rv, b, off, cap, rfl, hlb, hlt, hsz, hm, hk', hl2, hBw, ⟨q0, q1, q2, q3, q4⟩, ⟨l0, l1, l2, l3, l4, l5⟩, ⟨c0, c1, c2, c3, c4, c5, c6, c7⟩⟩ := look_box hW hl hk
  clear hW
  go_quiet (fail)
  go_wp2
  go_ret
  exact ⟨rfl, below_drewN hBw _⟩


abbrev rowO (r : Sea.Row) : Obj := .cells #[.int .i64 r.fill, .int .i64 r.inn, .int .i64 r.out] 65

theorem lim_start {rows : List Sea.Row} {fill : Int} (h : (Sea.rowAt rows 0).fill ≤ fill) : Sea.limTo rows fill 0 = Sea.limTo rows fill 1 := by
  rw [lim_stop rows fill 0 h]; rfl

theorem set3 {w : World} {n : Nat} {a b c : Value} {e : TypeId} (h : w.heap[n]? = some (.cells #[a, b, c] e)) (a' b' c' : Value) :
    (((w.setCell ⟨n, 0, none⟩ a').setCell ⟨n, 1, none⟩ b').setCell ⟨n, 2, none⟩ c').heap[n]? = some (.cells #[a', b', c'] e) := by
  simp only [World.setCell, Array.getElem?_modify, if_true, h]
  rfl

set_option maxHeartbeats 1000000 in
theorem progLimits (lv mv : Value) (s : Sea.S) (fill : Int) (w : World) (hl : LookAt w lv mv s) (hn : 0 < s.rows.length) (h0 : (Sea.rowAt s.rows 0).fill ≤ fill) :
    Calls Try.prog 71 #[lv, .int .i64 fill] w fun e w' => e = .returned (rowV (s.lim fill)) ∧ Below w.heap.size w w' := by
  obtain ⟨lb, rv, dv, rfl, ⟨l0, l1, l2, l3, l4, l5, l6⟩, hlb, ⟨ra, rcap, rfl, hrm, hrk⟩, hd⟩ := hl
  obtain ⟨b, off, rfl, hlt, hk⟩ := hrk hn
  clear hrk hd
  obtain ⟨c0, c1, c2⟩ := hk 0 hn
  unfold maxLen at hrm
  rw [Nat.zero_mul, Nat.add_zero] at c0 c1 c2
  go_enter Try.func71, Try.ntmps71
  go_wp2
  go_loopw [21] (fun i wr => ∃ k : Nat, k ≤ s.rows.length ∧ i = .int .i64 k ∧ Hid (∃ r, r = Sea.limTo s.rows fill k ∧ wr.heap[w.heap.size + 1]? = some (rowO r) ∧ wr.heap[w.heap.size]? = some (rowO ⟨0, 0, 0⟩) ∧ Below w.heap.size w wr)) (fun i _ => s.rows.length - (intOf i).toNat)
  case atStart => 
    exact ⟨0, by omega, rfl, _, rfl, by have := World.alloc_heap_new (w.alloc (rowO ⟨0, 0, 0⟩)) (rowO (Sea.limTo s.rows fill 0)); rwa [World.size_alloc] at this,
      (Below.heap_alloc _ _ _ (by simp)).trans (World.alloc_heap_new w _), ((Below.refl _ _).alloc (Nat.le_refl _) _).alloc (by simp) _⟩
  case round =>
    obtain ⟨k, hkn, rfl, hH⟩ := hrel
    obtain ⟨r, hr, h5, h4, hB⟩ := hH.out
    clear hH
    obtain ⟨z5, d5, f5⟩ := row_cells h5
    obtain ⟨z4, d4, f4⟩ := row_cells h4
    have e0 := d5 0
    have e1 := d5 1
    have e2 := d5 2
    have e3 := d4 0
    have e4 := d4 1
    have e5 := d4 2
    simp only [rowO, List.getElem?_toArray, List.getElem?_cons_zero, List.getElem?_cons_succ] at e0 e1 e2 e3 e4 e5
    replace hr := Lib.hid hr
    clear d4 d5
    by_cases hkl : k < s.rows.length
    · obtain ⟨c0, c1, c2⟩ := RowCells.mono (hk k hkl) hB
      have hlt' : (k : Int) < (s.rows.length : Int) := by omega
      have hltb : b < wr.heap.size := Nat.lt_of_lt_of_le hlt hB.size
      by_cases hf : (Sea.rowAt s.rows k).fill ≤ fill
      · go_wp2
        have h5' := set3 h5 (.int .i64 (Sea.rowAt s.rows k).fill) (.int .i64 (Sea.rowAt s.rows k).inn) (.int .i64 (Sea.rowAt s.rows k).out)
        have hB' := ((hB.setCell (p := ⟨w.heap.size + 1, 0, none⟩) (by simp) (.int .i64 (Sea.rowAt s.rows k).fill)).setCell (p := ⟨w.heap.size + 1, 1, none⟩) (by simp) (.int .i64 (Sea.rowAt s.rows k).inn)).setCell (p := ⟨w.heap.size + 1, 2, none⟩) (by simp) (.int .i64 (Sea.rowAt s.rows k).out)
        refine ⟨⟨k + 1, by omega, by go_num, ⟨_, (lim_stop s.rows fill k hf).symm, ?_, ?_, hB'.alloc hB'.size _⟩⟩, by simp [intOf]; omega⟩
        · exact (Below.heap_alloc _ _ _ (Array.getElem?_eq_some_iff.1 h5').1).trans h5'
        · exact (Below.heap_alloc _ _ _ (by have := hB'.size; have := (Array.getElem?_eq_some_iff.1 h5').1; omega)).trans
            (((Below.heap_setCell _ _ _ _ (by simp)).trans ((Below.heap_setCell _ _ _ _ (by simp)).trans (Below.heap_setCell _ _ _ _ (by simp)))).trans h4)
      · go_wp2
        exact ⟨⟨k + 1, by omega, by go_num, ⟨r, by rw [lim_go s.rows fill k (by omega)]; exact hr.out, (Below.heap_alloc _ _ _ z5).trans h5, (Below.heap_alloc _ _ _ z4).trans h4, hB.alloc hB.size _⟩⟩, by simp [intOf]; omega⟩
    · have hkn' : ¬ (k : Int) < (s.rows.length : Int) := by omega
      have hke : k = s.rows.length := by omega
      replace hke := Lib.hid hke
      go_wp2
      have hB' := ((hB.setCell (p := ⟨w.heap.size, 0, none⟩) (by simp) (.int .i64 r.fill)).setCell (p := ⟨w.heap.size, 1, none⟩) (by simp) (.int .i64 r.inn)).setCell (p := ⟨w.heap.size, 2, none⟩) (by simp) (.int .i64 r.out)
      obtain ⟨-, d, -⟩ := row_cells (set3 h4 (.int .i64 r.fill) (.int .i64 r.inn) (.int .i64 r.out))
      have g0 := d 0
      have g1 := d 1
      have g2 := d 2
      simp only [rowO, List.getElem?_toArray, List.getElem?_cons_zero, List.getElem?_cons_succ] at g0 g1 g2
      clear d
      generalize ((wr.setCell ⟨w.heap.size, 0, none⟩ (.int .i64 r.fill)).setCell ⟨w.heap.size, 1, none⟩ (.int .i64 r.inn)).setCell ⟨w.heap.size, 2, none⟩ (.int .i64 r.out) = W' at g0 g1 g2 hB'
      exact bodyPost_ret (v := rowV r) (by simp [results, Try.results71, go_sem, rowV, g0, g1, g2]) rfl ⟨by rw [hr.out, hke.out]; rfl, hB'⟩
end Go.Proofs.Ytacajmpggjgaiaa
