/- Walks: which reading tells two guesses apart (the program). -/
import Derived.Test.YtddmfkhmhdddeaaFou
set_option linter.unusedVariables false
set_option linter.unusedSimpArgs false
namespace Lk
/-- Whether a reading of a zone on a day tells two guesses apart. -/
def Bk.tellB (b : Bk) (g h : Gs) (wrong : Int) (t z : Nat) : Bool := decide (2 * wrong < (b.bnd g z t).lo - (b.bnd h z t).hi) || decide (2 * wrong < (b.bnd h z t).lo - (b.bnd g z t).hi)
def Bk.dayZones (b : Bk) : List (Nat × Nat) := (List.range b.flows.length).flatMap fun t => (List.range b.first.length).map fun z => (t, z)
def Bk.tellD (b : Bk) (g h : Gs) (wrong : Int) : Option (Nat × Nat) := b.dayZones.find? fun p => b.tellB g h wrong p.1 p.2
def Bk.tlR (b : Bk) (g h : Gs) (wrong : Int) : Int × Int × Int := if b.err (b.gsB g && b.gsB h) ≠ 0 then (0, 0, b.err (b.gsB g && b.gsB h)) else if inB wrong 0 10000000 = false then (0, 0, 2)
  else if (b.agreeB g && b.agreeB h) = false then (0, 0, 7) else match b.tellD g h wrong with
  | some p => ((p.1 : Int), (p.2 : Int), 0)
  | none => (0, 0, 5)
theorem dz_split (b : Bk) {t z : Nat} (ht : t < b.flows.length) (hz : z < b.first.length) : ∃ r, b.dayZones = (((List.range t).flatMap fun t => (List.range b.first.length).map fun z => (t, z)) ++ (List.range z).map fun z => (t, z)) ++ (t, z) :: r := by
  have e : List.range b.flows.length = List.range t ++ t :: (List.range' (t + 1) (b.flows.length - (t + 1))) := by
    rw [List.range_eq_range', List.range_eq_range', show b.flows.length = t + (1 + (b.flows.length - (t + 1))) by omega, ← List.range'_append_1, ← List.range'_append_1]
    simp
    rw [show t + (1 + (b.flows.length - (t + 1))) - (t + 1) = b.flows.length - (t + 1) by omega]
  have e2 : List.range b.first.length = List.range z ++ z :: (List.range' (z + 1) (b.first.length - (z + 1))) := by
    rw [List.range_eq_range', List.range_eq_range', show b.first.length = z + (1 + (b.first.length - (z + 1))) by omega, ← List.range'_append_1, ← List.range'_append_1]
    simp
    rw [show z + (1 + (b.first.length - (z + 1))) - (z + 1) = b.first.length - (z + 1) by omega]
  unfold Bk.dayZones
  rw [e, List.flatMap_append, List.flatMap_cons]
  conv => rhs; intro r; lhs; skip
  refine ⟨((List.range' (z + 1) (b.first.length - (z + 1))).map fun z => (t, z)) ++ (List.range' (t + 1) (b.flows.length - (t + 1))).flatMap fun t => (List.range b.first.length).map fun z => (t, z), ?_⟩
  have : ((List.range b.first.length).map fun z => (t, z)) = ((List.range z).map fun z => (t, z)) ++ (t, z) :: ((List.range' (z + 1) (b.first.length - (z + 1))).map fun z => (t, z)) := by
    conv => lhs; rw [e2]
    simp
  rw [this]
  simp
theorem tell_some {b : Bk} {g h : Gs} {wrong : Int} {t z : Nat} (ht : t < b.flows.length) (hz : z < b.first.length) (hy : b.tellB g h wrong t z = true) (h1 : ∀ u, u < t → ∀ v, v < b.first.length → b.tellB g h wrong u v = false) (h2 : ∀ v, v < z → b.tellB g h wrong t v = false) :
    b.tellD g h wrong = some (t, z) := by
  obtain ⟨r, hr⟩ := dz_split b ht hz
  unfold Bk.tellD
  rw [hr, List.find?_append]
  have hn : List.find? (fun p => b.tellB g h wrong p.1 p.2) (((List.range t).flatMap fun t => (List.range b.first.length).map fun z => (t, z)) ++ (List.range z).map fun z => (t, z)) = none := by
    rw [List.find?_eq_none]
    intro p hp
    simp only [List.mem_append, List.mem_flatMap, List.mem_map, List.mem_range] at hp
    rcases hp with ⟨u, hu, v, hv, rfl⟩ | ⟨v, hv, rfl⟩
    · simp [h1 u hu v hv]
    · simp [h2 v hv]
  rw [hn]
  simp [hy]
theorem tell_none {b : Bk} {g h : Gs} {wrong : Int} (h1 : ∀ u, u < b.flows.length → ∀ v, v < b.first.length → b.tellB g h wrong u v = false) : b.tellD g h wrong = none := by
  unfold Bk.tellD
  rw [List.find?_eq_none]
  intro p hp
  simp only [Bk.dayZones, List.mem_flatMap, List.mem_map, List.mem_range] at hp
  obtain ⟨u, hu, v, hv, rfl⟩ := hp
  simp [h1 u hu v hv]
theorem bnd_bd {b : Bk} (ok : Ok b) {g : Gs} (hg : b.gsB g = true) (ha : b.agreeB g = true) {z d : Nat} (hz : z < b.first.length) (hd : d < b.flows.length) :
    -10000000000 ≤ (b.bnd g z d).lo ∧ (b.bnd g z d).lo ≤ (b.bnd g z d).hi ∧ (b.bnd g z d).hi ≤ 10000000000 := by
  have hzo : b.zoneB g z = true := by
    simp only [Bk.agreeB, List.all_eq_true, List.mem_range] at ha
    exact ha z hz
  have h1 := bwd_in ok hg hz hzo (b.flows.length - 1 - d) (by omega)
  have h2 := fwd_bd ok hg hz (b.flows.length - (b.flows.length - 1 - d)) (by omega)
  unfold Bk.bnd
  omega
theorem tlR_err {b : Bk} {g h : Gs} {wrong : Int} (h1 : b.err (b.gsB g && b.gsB h) ≠ 0) : b.tlR g h wrong = (0, 0, b.err (b.gsB g && b.gsB h)) := by unfold Bk.tlR; rw [if_pos h1]
theorem tlR_arg {b : Bk} {g h : Gs} {wrong : Int} (h1 : b.err (b.gsB g && b.gsB h) = 0) (h2 : inB wrong 0 10000000 = false) : b.tlR g h wrong = (0, 0, 2) := by unfold Bk.tlR; rw [if_neg (by simp [h1]), if_pos h2]
theorem tlR_rule {b : Bk} {g h : Gs} {wrong : Int} (h1 : b.err (b.gsB g && b.gsB h) = 0) (h2 : inB wrong 0 10000000 = true) (h3 : (b.agreeB g && b.agreeB h) = false) : b.tlR g h wrong = (0, 0, 7) := by
  unfold Bk.tlR; rw [if_neg (by simp [h1]), if_neg (by simp [h2]), if_pos h3]
theorem tlR_yes {b : Bk} {g h : Gs} {wrong : Int} {t z : Nat} (h1 : b.err (b.gsB g && b.gsB h) = 0) (h2 : inB wrong 0 10000000 = true) (h3 : (b.agreeB g && b.agreeB h) = true) (h4 : b.tellD g h wrong = some (t, z)) : b.tlR g h wrong = ((t : Int), (z : Int), 0) := by
  unfold Bk.tlR; rw [if_neg (by simp [h1]), if_neg (by simp [h2]), if_neg (by simp [h3]), h4]
theorem tlR_no {b : Bk} {g h : Gs} {wrong : Int} (h1 : b.err (b.gsB g && b.gsB h) = 0) (h2 : inB wrong 0 10000000 = true) (h3 : (b.agreeB g && b.agreeB h) = true) (h4 : b.tellD g h wrong = none) : b.tlR g h wrong = (0, 0, 5) := by
  unfold Bk.tlR; rw [if_neg (by simp [h1]), if_neg (by simp [h2]), if_neg (by simp [h3]), h4]
end Lk
namespace Go.Proofs.Ytddmfkhmhdddeaa
open Go.RowKit Go.Sd Lk

theorem gss_two (w : World) (g h : Gs) : GssAt (w.alloc (.cells #[.int .i64 g.zone, .int .i64 g.size, .int .i64 g.since, .int .i64 h.zone, .int .i64 h.size, .int .i64 h.since] 28)) (.slice (some ⟨w.heap.size, 0, none⟩) 2 2) [g, h] := by
  refine ⟨_, 2, rfl, (show (2 : Nat) ≤ maxLen by decide), fun _ => ⟨_, 0, rfl, by simp, fun k i u hk hu => ?_⟩⟩
  have hr := (row_cells (World.alloc_heap_new w (.cells #[.int .i64 g.zone, .int .i64 g.size, .int .i64 g.since, .int .i64 h.zone, .int .i64 h.size, .int .i64 h.since] 28))).2.1
  rw [hr]
  match k, hk, i, hu with
  | 0, _, 0, hu => exact hu
  | 0, _, 1, hu => exact hu
  | 0, _, 2, hu => exact hu
  | 0, _, i + 3, hu => simp at hu
  | 1, _, 0, hu => exact hu
  | 1, _, 1, hu => exact hu
  | 1, _, 2, hu => exact hu
  | 1, _, i + 3, hu => simp at hu
  | k + 2, hk, _, _ => exact absurd hk (by simp)

theorem below_al2 {X w : World} (h : Below X.heap.size X w) (o p : Obj) : Below X.heap.size X ((w.alloc o).alloc p) := (h.alloc h.size o).alloc (h.alloc h.size o).size p
def TellPost (b : Bk) (g h : Gs) (wrong : Int) (w : World) (e : Ending) (w' : World) : Prop := e = .returned (.tuple #[.int .i64 (b.tlR g h wrong).1, .int .i64 (b.tlR g h wrong).2.1, .int .i64 (b.tlR g h wrong).2.2]) ∧ Below w.heap.size w w'
theorem TellPost.mk {b : Bk} {g h : Gs} {wrong : Int} {w w' : World} {x y z : Int} (hr : b.tlR g h wrong = (x, y, z)) (hb : Below w.heap.size w w') : TellPost b g h wrong w (.returned (.tuple #[.int .i64 x, .int .i64 y, .int .i64 z])) w' := ⟨by rw [hr], hb⟩

set_option maxRecDepth 100000 in
set_option maxHeartbeats 8000000 in
theorem progTell (fv wv rv : Value) (b : Bk) (g h : Gs) (wrong : Int) (w : World) (hb : BookAt w fv wv rv b) :
    Calls Try.prog 31 #[bkV fv wv rv, gsV g, gsV h, .int .i64 wrong] w (TellPost b g h wrong w) := by
  obtain ⟨W, hW⟩ : ∃ W, (((w.alloc (bkA fv wv rv)).alloc (gsO g)).alloc (gsO h)).alloc (bkO fv wv rv) = W := ⟨_, rfl⟩
  obtain ⟨e0, e1, e2, e3, s1, B1⟩ := four_new hW
  have hbW := Lib.hid (hb.mono B1)
  have E1 := Lib.hid e1
  have E2 := Lib.hid e2
  have E3 := Lib.hid e3
  have hwB := Lib.hid B1
  obtain ⟨V, hV⟩ : ∃ V, W.alloc (.cells #[.int .i64 g.zone, .int .i64 g.size, .int .i64 g.since, .int .i64 h.zone, .int .i64 h.size, .int .i64 h.since] 28) = V := ⟨_, rfl⟩
  have hgV : GssAt V (.slice (some ⟨W.heap.size, 0, none⟩) 2 2) [g, h] := by rw [← hV]; exact gss_two W g h
  have BV : Below W.heap.size W V := by rw [← hV]; exact (Below.refl _ _).alloc (Nat.le_refl _) _
  have hBV := Lib.hid BV
  have kA : Hid (Calls Try.prog 51 #[bkV fv wv rv, .slice (some ⟨W.heap.size, 0, none⟩) 2 2] V fun e w' => e = .returned (.int .i64 (b.err (b.gsB g && b.gsB h))) ∧ Below V.heap.size V w') := Lib.hid (by
    have := progAsked fv wv rv _ b [g, h] V (hbW.out.mono BV) hgV
    simpa using this)
  have hez := Lib.hid (err_zero (b := b) (f := b.gsB g && b.gsB h))
  have r1 := Lib.hid (tlR_err (b := b) (g := g) (h := h) (wrong := wrong))
  have r2 := Lib.hid (tlR_arg (b := b) (g := g) (h := h) (wrong := wrong))
  have r3 := Lib.hid (tlR_rule (b := b) (g := g) (h := h) (wrong := wrong))
  have r4 := Lib.hid (fun t z => tlR_yes (b := b) (g := g) (h := h) (wrong := wrong) (t := t) (z := z))
  have r5 := Lib.hid (tlR_no (b := b) (g := g) (h := h) (wrong := wrong))
  obtain ⟨fa, fc, rfl, hfm, -⟩ := hb.first.form
  obtain ⟨wa, wc, rfl, hwm, -⟩ := hb.flows.form
  obtain ⟨ra, rc, rfl, hrm, -⟩ := hb.reads.form
  obtain ⟨a0, a1, a2⟩ := rc3 e1
  obtain ⟨b0, b1, b2⟩ := rc3 e2
  obtain ⟨c0, c1, c2⟩ := rc3 e3
  have z1 := (Array.getElem?_eq_some_iff.1 e1).1
  have z2 := (Array.getElem?_eq_some_iff.1 e2).1
  have z3 := (Array.getElem?_eq_some_iff.1 e3).1
  have kI := Lib.hid (fun X => progIn wrong 0 10000000 X)
  clear hb e0 e1 e2 e3 s1 B1 hgV BV
  generalize b.err (b.gsB g && b.gsB h) = er at *
  by_cases hr : er = 0
  · have ok := Lib.hid (ok_of (hez.out hr).2.1 (hez.out hr).1)
    have hgh := (hez.out hr).2.2
    rw [Bool.and_eq_true] at hgh
    have hg := Lib.hid hgh.1
    have hh := Lib.hid hgh.2
    clear hgh hez r1
    subst hr
    cases hi : inB wrong 0 10000000
    · have hres := Lib.hid (r2.out rfl hi)
      rw [hi] at kI
      clear r2 r3 r4 r5 hi
      go_enter Try.func31, Try.ntmps31
      go_wp2_with (first | (go_at_call 51; (with_reducible refine Calls.mono kA.out ?_); rintro e w1 ⟨rfl, hb0⟩; have hb1 := below_tr hBV.out hb0; have hi1 := Lib.hid hb1; replace a0 := kept_cell hb1 a0; replace a1 := kept_cell hb1 a1; replace a2 := kept_cell hb1 a2; replace b0 := kept_cell hb1 b0; replace b1 := kept_cell hb1 b1; replace b2 := kept_cell hb1 b2; replace c0 := kept_cell hb1 c0; replace c1 := kept_cell hb1 c1; replace c2 := kept_cell hb1 c2; have z1 := Nat.lt_of_lt_of_le z1 hb1.size; have z2 := Nat.lt_of_lt_of_le z2 hb1.size; have z3 := Nat.lt_of_lt_of_le z3 hb1.size) | (go_at_call 63; (with_reducible refine Calls.mono (kI.out _) ?_); rintro e w' ⟨rfl, rfl⟩))
      refine bodyPost_ret (v := .tuple #[_, _, _]) (by simp [results, Try.results31, go_sem]; exact ⟨rfl, rfl, rfl⟩) rfl ?_
      exact TellPost.mk hres.out (below_tr hwB.out hb1)
    · rw [hi] at kI
      have hin := Lib.hid hi
      rw [inB_iff] at hi
      have kG : Hid (∀ X, Below W.heap.size W X → Calls Try.prog 52 #[bkV (.slice fa b.first.length fc) (.slice wa b.flows.length wc) (.slice ra b.reads.length rc), gsV g] X fun e w' => ∃ a m c, e = .returned (.tuple #[.slice a m c, .bool (b.agreeB g)]) ∧ Hid (b.agreeB g = true → m = b.flows.length ∧ SpRowsAt w' (.slice a m c) (b.bounds g)) ∧ Below X.heap.size X w') := Lib.hid fun X hX => by
        cases ha : b.agreeB g
        · exact (seenNo _ _ _ b g X (hbW.out.mono hX) ok.out hg.out ha).mono (by rintro e w' ⟨rfl, hB⟩; exact ⟨none, 0, 0, rfl, Lib.hid (fun h => nomatch h), hB⟩)
        · exact (seenYes _ _ _ b g X (hbW.out.mono hX) ok.out hg.out ha).mono (by rintro e w' ⟨a, c, rfl, hr, hB⟩; exact ⟨a, _, c, rfl, Lib.hid (fun _ => ⟨rfl, hr⟩), hB⟩)
      have kH : Hid (∀ X, Below W.heap.size W X → Calls Try.prog 52 #[bkV (.slice fa b.first.length fc) (.slice wa b.flows.length wc) (.slice ra b.reads.length rc), gsV h] X fun e w' => ∃ a m c, e = .returned (.tuple #[.slice a m c, .bool (b.agreeB h)]) ∧ Hid (b.agreeB h = true → m = b.flows.length ∧ SpRowsAt w' (.slice a m c) (b.bounds h)) ∧ Below X.heap.size X w') := Lib.hid fun X hX => by
        cases ha : b.agreeB h
        · exact (seenNo _ _ _ b h X (hbW.out.mono hX) ok.out hh.out ha).mono (by rintro e w' ⟨rfl, hB⟩; exact ⟨none, 0, 0, rfl, Lib.hid (fun h => nomatch h), hB⟩)
        · exact (seenYes _ _ _ b h X (hbW.out.mono hX) ok.out hh.out ha).mono (by rintro e w' ⟨a, c, rfl, hr, hB⟩; exact ⟨a, _, c, rfl, Lib.hid (fun _ => ⟨rfl, hr⟩), hB⟩)
      have bdG := Lib.hid (fun (ha : b.agreeB g = true) (z d : Nat) (hz : z < b.first.length) (hd : d < b.flows.length) => bnd_bd ok.out hg.out ha hz hd)
      have bdH := Lib.hid (fun (ha : b.agreeB h = true) (z d : Nat) (hz : z < b.first.length) (hd : d < b.flows.length) => bnd_bd ok.out hh.out ha hz hd)
      clear r2
      cases ha : b.agreeB g
      · have hres := Lib.hid (r3.out rfl hin.out (by rw [ha]; rfl))
        rw [ha] at kG
        generalize b.agreeB h = th at *
        clear ha r3 r4 r5 bdG bdH
        cases th
        all_goals
          go_enter Try.func31, Try.ntmps31
          go_wp2_with (first | (go_at_call 51; (with_reducible refine Calls.mono kA.out ?_); rintro e w1 ⟨rfl, hb0⟩; have hb1 := below_tr hBV.out hb0; have hi1 := Lib.hid hb1; replace a0 := kept_cell hb1 a0; replace a1 := kept_cell hb1 a1; replace a2 := kept_cell hb1 a2; replace b0 := kept_cell hb1 b0; replace b1 := kept_cell hb1 b1; replace b2 := kept_cell hb1 b2; replace c0 := kept_cell hb1 c0; replace c1 := kept_cell hb1 c1; replace c2 := kept_cell hb1 c2; have z1 := Nat.lt_of_lt_of_le z1 hb1.size; have z2 := Nat.lt_of_lt_of_le z2 hb1.size; have z3 := Nat.lt_of_lt_of_le z3 hb1.size) | (go_at_call 63; (with_reducible refine Calls.mono (kI.out _) ?_); rintro e w' ⟨rfl, rfl⟩) | (go_at_call 52; (with_reducible refine Calls.mono (kG.out _ hi1.out) ?_); rintro e w2 ⟨x1, m1, y1, rfl, hro1, hbX⟩; have hi2 := Lib.hid (below_tr hi1.out hbX); replace a0 := kept_cell hbX a0; replace a1 := kept_cell hbX a1; replace a2 := kept_cell hbX a2; replace b0 := kept_cell hbX b0; replace b1 := kept_cell hbX b1; replace b2 := kept_cell hbX b2; replace c0 := kept_cell hbX c0; replace c1 := kept_cell hbX c1; replace c2 := kept_cell hbX c2; have z1 := Nat.lt_of_lt_of_le z1 hbX.size; have z2 := Nat.lt_of_lt_of_le z2 hbX.size; have z3 := Nat.lt_of_lt_of_le z3 hbX.size; clear hi1 hbX) | (go_at_call 52; (with_reducible refine Calls.mono (kH.out _ hi2.out) ?_); rintro e w3 ⟨x2, m2, y2, rfl, hro2, hbX⟩; have hi3 := Lib.hid (below_tr hi2.out hbX); have hbZ := Lib.hid hbX; clear hi2 hbX))
          refine bodyPost_ret (v := .tuple #[_, _, _]) (by simp [results, Try.results31, go_sem]; exact ⟨rfl, rfl, rfl⟩) rfl ?_
          exact TellPost.mk hres.out (below_tr hwB.out hi3.out)
      · cases hb' : b.agreeB h
        · have hres := Lib.hid (r3.out rfl hin.out (by rw [ha, hb']; rfl))
          rw [ha] at kG
          rw [hb'] at kH
          clear ha hb' r3 r4 r5 bdG bdH
          go_enter Try.func31, Try.ntmps31
          go_wp2_with (first | (go_at_call 51; (with_reducible refine Calls.mono kA.out ?_); rintro e w1 ⟨rfl, hb0⟩; have hb1 := below_tr hBV.out hb0; have hi1 := Lib.hid hb1; replace a0 := kept_cell hb1 a0; replace a1 := kept_cell hb1 a1; replace a2 := kept_cell hb1 a2; replace b0 := kept_cell hb1 b0; replace b1 := kept_cell hb1 b1; replace b2 := kept_cell hb1 b2; replace c0 := kept_cell hb1 c0; replace c1 := kept_cell hb1 c1; replace c2 := kept_cell hb1 c2; have z1 := Nat.lt_of_lt_of_le z1 hb1.size; have z2 := Nat.lt_of_lt_of_le z2 hb1.size; have z3 := Nat.lt_of_lt_of_le z3 hb1.size) | (go_at_call 63; (with_reducible refine Calls.mono (kI.out _) ?_); rintro e w' ⟨rfl, rfl⟩) | (go_at_call 52; (with_reducible refine Calls.mono (kG.out _ hi1.out) ?_); rintro e w2 ⟨x1, m1, y1, rfl, hro1, hbX⟩; have hi2 := Lib.hid (below_tr hi1.out hbX); replace a0 := kept_cell hbX a0; replace a1 := kept_cell hbX a1; replace a2 := kept_cell hbX a2; replace b0 := kept_cell hbX b0; replace b1 := kept_cell hbX b1; replace b2 := kept_cell hbX b2; replace c0 := kept_cell hbX c0; replace c1 := kept_cell hbX c1; replace c2 := kept_cell hbX c2; have z1 := Nat.lt_of_lt_of_le z1 hbX.size; have z2 := Nat.lt_of_lt_of_le z2 hbX.size; have z3 := Nat.lt_of_lt_of_le z3 hbX.size; clear hi1 hbX) | (go_at_call 52; (with_reducible refine Calls.mono (kH.out _ hi2.out) ?_); rintro e w3 ⟨x2, m2, y2, rfl, hro2, hbX⟩; have hi3 := Lib.hid (below_tr hi2.out hbX); have hbZ := Lib.hid hbX; clear hi2 hbX))
          refine bodyPost_ret (v := .tuple #[_, _, _]) (by simp [results, Try.results31, go_sem]; exact ⟨rfl, rfl, rfl⟩) rfl ?_
          exact TellPost.mk hres.out (below_tr hwB.out hi3.out)
        · have hyes := Lib.hid (fun t z h => r4.out t z rfl hin.out (by rw [ha, hb']; rfl) h)
          have hno := Lib.hid (fun h => r5.out rfl hin.out (by rw [ha, hb']; rfl) h)
          replace bdG := Lib.hid (bdG.out ha)
          replace bdH := Lib.hid (bdH.out hb')
          rw [ha] at kG
          rw [hb'] at kH
          clear ha hb' r3 r4 r5
          go_enter Try.func31, Try.ntmps31
          go_wp2_with (first | (go_at_call 51; (with_reducible refine Calls.mono kA.out ?_); rintro e w1 ⟨rfl, hb0⟩; have hb1 := below_tr hBV.out hb0; have hi1 := Lib.hid hb1; replace a0 := kept_cell hb1 a0; replace a1 := kept_cell hb1 a1; replace a2 := kept_cell hb1 a2; replace b0 := kept_cell hb1 b0; replace b1 := kept_cell hb1 b1; replace b2 := kept_cell hb1 b2; replace c0 := kept_cell hb1 c0; replace c1 := kept_cell hb1 c1; replace c2 := kept_cell hb1 c2; have z1 := Nat.lt_of_lt_of_le z1 hb1.size; have z2 := Nat.lt_of_lt_of_le z2 hb1.size; have z3 := Nat.lt_of_lt_of_le z3 hb1.size) | (go_at_call 63; (with_reducible refine Calls.mono (kI.out _) ?_); rintro e w' ⟨rfl, rfl⟩) | (go_at_call 52; (with_reducible refine Calls.mono (kG.out _ hi1.out) ?_); rintro e w2 ⟨x1, m1, y1, rfl, hro1, hbX⟩; have hi2 := Lib.hid (below_tr hi1.out hbX); replace a0 := kept_cell hbX a0; replace a1 := kept_cell hbX a1; replace a2 := kept_cell hbX a2; replace b0 := kept_cell hbX b0; replace b1 := kept_cell hbX b1; replace b2 := kept_cell hbX b2; replace c0 := kept_cell hbX c0; replace c1 := kept_cell hbX c1; replace c2 := kept_cell hbX c2; have z1 := Nat.lt_of_lt_of_le z1 hbX.size; have z2 := Nat.lt_of_lt_of_le z2 hbX.size; have z3 := Nat.lt_of_lt_of_le z3 hbX.size; clear hi1 hbX) | (go_at_call 52; (with_reducible refine Calls.mono (kH.out _ hi2.out) ?_); rintro e w3 ⟨x2, m2, y2, rfl, hro2, hbX⟩; have hi3 := Lib.hid (below_tr hi2.out hbX); have hbZ := Lib.hid hbX; clear hi2 hbX; obtain ⟨rfl, hR1⟩ := hro1.out (by first | rfl | trivial); obtain ⟨rfl, hR2⟩ := hro2.out (by first | rfl | trivial); replace hR1 := hR1.mono hbZ.out; replace hR1 := Lib.hid hR1; replace hR2 := Lib.hid hR2))
          have hnd := ok.out.nd
          have hnz := ok.out.nz
          obtain ⟨S, rfl⟩ : ∃ S : World, S = w3 := ⟨_, rfl⟩
          go_loopw [54] (fun i wr => ∃ t : Nat, t ≤ b.flows.length ∧ i = .int .i64 t ∧ Hid (Below S.heap.size S wr ∧ ∀ u, u < t → ∀ v, v < b.first.length → b.tellB g h wrong u v = false)) (fun i _ => b.flows.length - (intOf i).toNat)
          case atStart => exact ⟨0, by omega, rfl, Below.refl _ _, fun u h => absurd h (by omega)⟩
          case round =>
            obtain ⟨t, ht, rfl, hI⟩ := hrel
            obtain ⟨hB, hbef⟩ := hI.out
            replace hbef := Lib.hid hbef
            clear hI
            by_cases htl : t < b.flows.length
            · have hti : (t : Int) < (b.flows.length : Int) := by omega
              obtain ⟨b1, o1, k1, ev1, hv1, hl1, hm1, x1c, hr1⟩ := sprow_cell (hR1.out.mono hB) (k := t) (by rw [bounds_len]; exact htl)
              obtain ⟨b2, o2, k2, ev2, hv2, hl2, hm2, x2c, hr2⟩ := sprow_cell (hR2.out.mono hB) (k := t) (by rw [bounds_len]; exact htl)
              rw [bounds_len] at hv1 hv2
              obtain ⟨rfl, rfl⟩ : x1 = some ⟨b1, o1, none⟩ ∧ y1 = k1 := by simpa using hv1
              obtain ⟨rfl, rfl⟩ : x2 = some ⟨b2, o2, none⟩ ∧ y2 = k2 := by simpa using hv2
              have hw1 : rwAt (b.bounds g) t = (List.range b.first.length).map fun z => b.bnd g z t := rwAt_range htl
              have hw2 : rwAt (b.bounds h) t = (List.range b.first.length).map fun z => b.bnd h z t := rwAt_range htl
              rw [hw1] at hr1
              rw [hw2] at hr2
              obtain ⟨a1, q1, rfl, hn1, -⟩ := hr1.form
              obtain ⟨a2, q2, rfl, hn2, -⟩ := hr2.form
              rw [List.length_map, List.length_range] at x1c x2c hr1 hr2
              have hr1' := Lib.hid hr1
              have hr2' := Lib.hid hr2
              have hx1 := Lib.hid x1c
              have hx2 := Lib.hid x2c
              have z1 := World.block_lt_of_cell? wr ⟨b1, _, none⟩ x1c
              have z2 := World.block_lt_of_cell? wr ⟨b2, _, none⟩ x2c
              simp only at z1 z2
              have hBh := Lib.hid hB
              clear hv1 hv2 hr1 hr2 hw1 hw2 hB hR1 hR2 hro1 hro2 hl1 hl2 x2c
              obtain ⟨U, rfl⟩ : ∃ U : World, U = wr := ⟨_, rfl⟩
              go_wp2
              clear x1c
              go_loopw [62] (fun i wr => ∃ z : Nat, z ≤ b.first.length ∧ i = .int .i64 z ∧ Hid (Below U.heap.size U wr ∧ ∀ v, v < z → b.tellB g h wrong t v = false)) (fun i _ => b.first.length - (intOf i).toNat)
              case atStart => exact ⟨0, by omega, rfl, Below.refl _ _, fun u h => absurd h (by omega)⟩
              case round =>
                obtain ⟨z, hz, rfl, hJ⟩ := hrel
                obtain ⟨hB2, hbz⟩ := hJ.out
                replace hbz := Lib.hid hbz
                clear hJ
                by_cases hzl : z < b.first.length
                · have hzi : (z : Int) < (b.first.length : Int) := by omega
                  obtain ⟨c1b, c1o, c1c, hc1, hc1l, -, s1l, s1h⟩ := sp_cells (ElsAt.mono hr1'.out hB2) (k := z) (by simpa using hzl)
                  obtain ⟨c2b, c2o, c2c, hc2, hc2l, -, s2l, s2h⟩ := sp_cells (ElsAt.mono hr2'.out hB2) (k := z) (by simpa using hzl)
                  rw [List.length_map, List.length_range] at hc1 hc2
                  obtain ⟨rfl, rfl⟩ : a1 = some ⟨c1b, c1o, none⟩ ∧ q1 = c1c := by simpa using hc1
                  obtain ⟨rfl, rfl⟩ : a2 = some ⟨c2b, c2o, none⟩ ∧ q2 = c2c := by simpa using hc2
                  rw [spAt_range hzl] at s1l s1h s2l s2h
                  have hbg := bdG.out z t hzl htl
                  have hbh := bdH.out z t hzl htl
                  have htb : Hid (b.tellB g h wrong t z = (decide (2 * wrong < (b.bnd g z t).lo - (b.bnd h z t).hi) || decide (2 * wrong < (b.bnd h z t).lo - (b.bnd g z t).hi))) := rfl
                  have x2c := kept_cell hB2 hx2.out
                  generalize b.bnd g z t = s at *
                  generalize b.bnd h z t = o at *
                  have u1 := World.block_lt_of_cell? wr ⟨c1b, _, none⟩ s1l
                  have u2 := World.block_lt_of_cell? wr ⟨c2b, _, none⟩ s2l
                  have u3 := World.block_lt_of_cell? wr ⟨b2, _, none⟩ x2c
                  simp only at u1 u2 u3
                  have hBf := Lib.hid ((below_tr hwB.out hi3.out).trans ((below_tr hBh.out hB2).mono (below_tr hwB.out hi3.out).size))
                  clear hc1 hc2
                  have hBA : Below U.heap.size U ((wr.alloc (spO s)).alloc (spO o)) := below_al2 hB2 _ _
                  replace hBA := Lib.hid hBA
                  by_cases hL : 2 * wrong < s.lo - o.hi
                  · have hres := Lib.hid (hyes.out t z (tell_some htl hzl (by rw [htb.out]; simp [hL]) hbef.out hbz.out))
                    clear htb hyes hno bdG bdH hB2
                    go_wp2
                    refine bodyPost_ret (v := .tuple #[_, _, _]) (by simp [results, Try.results31, go_sem]; exact ⟨rfl, rfl, rfl⟩) rfl ?_
                    exact TellPost.mk hres.out ((below_tr hwB.out hi3.out).trans ((below_tr hBh.out hBA.out).mono (below_tr hwB.out hi3.out).size))
                  · have hL2 : decide (2 * wrong < s.lo - o.hi) = false := by simpa using hL
                    by_cases hM : 2 * wrong < o.lo - s.hi
                    · have hres := Lib.hid (hyes.out t z (tell_some htl hzl (by rw [htb.out]; simp [hM]) hbef.out hbz.out))
                      clear htb hyes hno bdG bdH hB2
                      go_wp2
                      refine bodyPost_ret (v := .tuple #[_, _, _]) (by simp [results, Try.results31, go_sem]; exact ⟨rfl, rfl, rfl⟩) rfl ?_
                      exact TellPost.mk hres.out ((below_tr hwB.out hi3.out).trans ((below_tr hBh.out hBA.out).mono (below_tr hwB.out hi3.out).size))
                    · have hM2 : decide (2 * wrong < o.lo - s.hi) = false := by simpa using hM
                      have hbn : Hid (∀ v, v < z + 1 → b.tellB g h wrong t v = false) := Lib.hid fun v hv => by
                        rcases Nat.lt_succ_iff_lt_or_eq.1 hv with h' | rfl
                        · exact hbz.out v h'
                        · rw [htb.out, hL2, hM2]; rfl
                      clear htb hbz hB2
                      go_wp2
                      exact ⟨⟨z + 1, by omega, by go_num, hBA.out, hbn.out⟩, by simp [intOf]; omega⟩
                · obtain rfl : z = b.first.length := by omega
                  have hbn : Hid (∀ u, u < t + 1 → ∀ v, v < b.first.length → b.tellB g h wrong u v = false) := Lib.hid fun u hu => by
                    rcases Nat.lt_succ_iff_lt_or_eq.1 hu with h' | rfl
                    · exact hbef.out u h'
                    · exact hbz.out
                  have hBf := Lib.hid (below_tr hBh.out hB2)
                  clear hbz hB2
                  go_wp2
                  exact ⟨⟨t + 1, by omega, by go_num, hBf.out, hbn.out⟩, by simp [intOf]; omega⟩
            · obtain rfl : t = b.flows.length := by omega
              have hres := Lib.hid (hno.out (tell_none hbef.out))
              have hBf := Lib.hid ((below_tr hwB.out hi3.out).trans (hB.mono (below_tr hwB.out hi3.out).size))
              clear hyes hno hbef hB
              go_wp2
              refine bodyPost_ret (v := .tuple #[_, _, _]) (by simp [results, Try.results31, go_sem]; exact ⟨rfl, rfl, rfl⟩) rfl ?_
              exact TellPost.mk hres.out hBf.out
  · have hd : decide (er = 0) = false := by simpa using hr
    have hres := Lib.hid (r1.out hr)
    clear r1 r2 r3 r4 r5
    go_enter Try.func31, Try.ntmps31
    go_wp2_with ((go_at_call 51; (with_reducible refine Calls.mono kA.out ?_); rintro e w1 ⟨rfl, hb0⟩; have hb1 := below_tr hBV.out hb0; have hi1 := Lib.hid hb1; replace a0 := kept_cell hb1 a0; replace a1 := kept_cell hb1 a1; replace a2 := kept_cell hb1 a2; replace b0 := kept_cell hb1 b0; replace b1 := kept_cell hb1 b1; replace b2 := kept_cell hb1 b2; replace c0 := kept_cell hb1 c0; replace c1 := kept_cell hb1 c1; replace c2 := kept_cell hb1 c2; have z1 := Nat.lt_of_lt_of_le z1 hb1.size; have z2 := Nat.lt_of_lt_of_le z2 hb1.size; have z3 := Nat.lt_of_lt_of_le z3 hb1.size))
    refine bodyPost_ret (v := .tuple #[_, _, _]) (by simp [results, Try.results31, go_sem]; exact ⟨rfl, rfl, rfl⟩) rfl ?_
    exact TellPost.mk hres.out (below_tr hwB.out hb1)
end Go.Proofs.Ytddmfkhmhdddeaa
