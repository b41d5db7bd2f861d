/- Laws and walks: LSen. -/
import Derived.Recover
import Derived.Deep.Cut
import Derived.Deep.RegionHeld3
import Derived.Defers
import Derived.Laws.Pointers
import Derived.Laws.EntriesVeiled
import Derived.Test.YthbkcoijafehgaaGreatK26
set_option linter.unusedVariables false
set_option linter.unusedSimpArgs false
namespace Lk
/-- The table behind k zones and t days of the next one. -/
def Bk.tabT (b : Bk) (g : Gs) (k t : Nat) : List (List Sp) := (List.range b.flows.length).map fun d => (List.range (if d < t then k + 1 else k)).map fun z => b.bnd g z d
theorem tabT_len {b : Bk} {g : Gs} {k t : Nat} : (b.tabT g k t).length = b.flows.length := by simp [Bk.tabT]
theorem tabT_at {b : Bk} {g : Gs} {k t d : Nat} (h : d < b.flows.length) : (b.tabT g k t).getD d [] = (List.range (if d < t then k + 1 else k)).map fun z => b.bnd g z d := by simp [Bk.tabT, h]
theorem tabT_0 {b : Bk} {g : Gs} : b.tabT g 0 0 = List.replicate b.flows.length [] := by
  apply List.ext_getElem (by simp [Bk.tabT])
  intro i h1 h2
  simp [Bk.tabT]
theorem tabT_n {b : Bk} {g : Gs} {k : Nat} : b.tabT g k b.flows.length = b.tabT g (k + 1) 0 := by
  apply List.ext_getElem (by simp [Bk.tabT])
  intro i h1 h2
  have : i < b.flows.length := by simpa [Bk.tabT] using h1
  simp [Bk.tabT, this]
theorem tabT_more {b : Bk} {g : Gs} {k t : Nat} (h : t < b.flows.length) : (b.tabT g k t).set t ((b.tabT g k t).getD t [] ++ [b.bnd g k t]) = b.tabT g k (t + 1) := by
  rw [tabT_at h, if_neg (by omega)]
  apply List.ext_getElem (by simp [Bk.tabT])
  intro i h1 h2
  rw [List.getElem_set]
  by_cases hi : t = i
  · subst hi
    rw [if_pos rfl]
    simp [Bk.tabT, List.range_succ]
  · rw [if_neg hi]
    simp only [Bk.tabT, List.getElem_map, List.getElem_range]
    have : (i < t) = (i < t + 1) := by apply propext; omega
    simp only [this]
theorem tabT_all {b : Bk} {g : Gs} : b.tabT g b.first.length 0 = b.bounds g := by simp [Bk.tabT, Bk.bounds]
theorem agree_all {b : Bk} {g : Gs} (h : ∀ z, z < b.first.length → b.zoneB g z = true) : b.agreeB g = true := by
  simp only [Bk.agreeB, List.all_eq_true, List.mem_range]; exact h
theorem agree_no {b : Bk} {g : Gs} {z : Nat} (hz : z < b.first.length) (h : b.zoneB g z = false) : b.agreeB g = false := by
  cases hc : b.agreeB g
  · rfl
  · simp only [Bk.agreeB, List.all_eq_true, List.mem_range] at hc
    rw [hc z hz] at h; cases h
end Lk
namespace Go.Proofs.YthbkcoijafehgaaGreat.L
open Go.RowKit Go.Sd Lk
abbrev noE (z : Nat) (r : Bool) : PanicEntry := { v := noneV z, recovered := r }
set_option maxRecDepth 100000 in
set_option maxHeartbeats 1000000 in
theorem seen_catch (B b1 b2 z : Nat) (v : Value) (x : Bool) (older : List PanicEntry) (w : World) (h1 : w.heap[b1]? = some (.cells #[v] 44)) (h2 : w.heap[b2]? = some (.cells #[.bool x] 4)) (hB1 : B ≤ b1) (hB2 : B ≤ b2) (hne : b1 ≠ b2) :
    CallsD Tryz.prog 59 #[.pointer (some ⟨b1, 0, none⟩), .pointer (some ⟨b2, 0, none⟩)] (.panicking (noE z false :: older)) w fun e u' w' =>
      e = .returned (.tuple #[]) ∧ u' = .panicking (noE z true :: older) ∧ w'.cell? ⟨b1, 0, none⟩ = some (.slice none 0 0) ∧ w'.cell? ⟨b2, 0, none⟩ = some (.bool false) ∧ Below B w w' := by
  have hta : ∀ w, (Instr.typeAssert (noneV z) 20 127 true).run Tryz.prog w = .ok (.tuple #[.agg #[.int .i64 z], .bool true]) w := fun w => by kernel_rfl
  obtain ⟨z1, r1, f1⟩ := row_cells h1
  obtain ⟨z2, r2, f2⟩ := row_cells h2
  have c1 := rc1 h1
  have d1 := f1 0
  have c2 := rc1 h2
  have d2 := f2 0
  clear r1 r2 f1 f2
  refine callsD_of_wpS Tryz.func59 rfl fun c₀ cs hu => ?_
  apply wpS_seq
  apply wpS_region
  simp [wpOpsS, go_sem, recoverD, hu, Tryz.ntmps59, Exit.thenS]
  refine wpS_of_wp ?_
  go_wp2
  simp [bodyPostS, results, Tryz.results59, go_sem]
  have n1 := World.cell?_setCell_same' w ⟨b1, 0, none⟩ (.slice none 0 0) (by rw [c1]; rfl)
  have n2 := (World.cell?_setCell_far (w.setCell ⟨b1, 0, none⟩ (.slice none 0 0)) ⟨b2, 0, none⟩ ⟨b1, 0, none⟩ (.bool false) hne.symm).trans n1
  have m1 := (World.cell?_setCell_far w ⟨b1, 0, none⟩ ⟨b2, 0, none⟩ (.slice none 0 0) hne).trans c2
  have m2 := World.cell?_setCell_same' (w.setCell ⟨b1, 0, none⟩ (.slice none 0 0)) ⟨b2, 0, none⟩ (.bool false) (by rw [m1]; rfl)
  have hk : Below B w (((w.setCell ⟨b1, 0, none⟩ (.slice none 0 0)).setCell ⟨b2, 0, none⟩ (.bool false)).alloc (.cells #[.int .i64 z] 127)) := by
    have h := ((Below.refl B w).setCell (p := ⟨b1, 0, none⟩) hB1 (.slice none 0 0)).setCell (p := ⟨b2, 0, none⟩) hB2 (.bool false)
    exact h.alloc (by simp [World.setCell]; omega) _
  exact ⟨kept_cell ((Below.refl _ _).alloc (Nat.le_refl _) _) n2, kept_cell ((Below.refl _ _).alloc (Nat.le_refl _) _) m2, hk⟩
set_option maxRecDepth 100000 in
set_option maxHeartbeats 1000000 in
theorem seen_idle (p q : Addr) (w : World) :
    CallsD Tryz.prog 59 #[.pointer (some p), .pointer (some q)] .returning w fun e u' w' => e = .returned (.tuple #[]) ∧ u' = .returning ∧ w' = w := by
  refine callsD_of_wpS Tryz.func59 rfl fun c₀ cs hu => ?_
  apply wpS_seq
  apply wpS_region
  simp [wpOpsS, go_sem, recoverD, hu, Tryz.ntmps59, Exit.thenS]
  refine wpS_of_wp ?_
  go_wp2
  cases c₀
  simp_all [bodyPostS, results, Tryz.results59, go_sem]
def SeenPost (b : Bk) (g : Gs) (w : World) (e : Ending) (w' : World) : Prop := Below w.heap.size w w' ∧
  ((b.agreeB g = true ∧ ∃ v, e = .returned (.tuple #[v, .bool true]) ∧ SpRowsAt w' v (b.bounds g)) ∨ (b.agreeB g = false ∧ e = .returned (.tuple #[.slice none 0 0, .bool false])))
theorem below_tr' {B : Nat} {w V Y : World} (h : Below B w V) (hB : B ≤ V.heap.size) (hk : Kept (fun i => i ≠ B) V Y) : Below B w Y := h.trans (hk.below hB fun i hi => by omega)
/-- What stands in the rounds. -/
structure SeenSt (b : Bk) (g : Gs) (w : World) (fv wv rv : Value) (k t : Nat) (bad : List Nat) (W : World) : Prop where
  bk : W.heap[w.heap.size]? = some (bkO fv wv rv)
  gs : W.heap[w.heap.size + 1]? = some (gsO g)
  out : W.heap[w.heap.size + 1 + 1]? = some (.cells #[.slice (some ⟨w.heap.size + 4, 0, none⟩) b.flows.length b.flows.length] 44)
  is : W.heap[w.heap.size + 1 + 1 + 1]? = some (.cells #[.bool false] 4)
  tab : SpTab (w.heap.size + 4) (w.heap.size + 4) bad W (b.tabT g k t)
  bel : Below w.heap.size w W
  size : w.heap.size + 4 < W.heap.size
section
variable {b : Bk} {g : Gs} {w : World} {fv wv rv : Value} {k t : Nat} {bad : List Nat} {W V : World}
theorem SeenSt.mono (h : SeenSt b g w fv wv rv k t bad W) (hb : Below W.heap.size W V) : SeenSt b g w fv wv rv k t bad V :=
  ⟨kept_block hb h.bk, kept_block hb h.gs, kept_block hb h.out, kept_block hb h.is, h.tab.mono hb, below_tr h.bel hb, Nat.lt_of_lt_of_le h.size hb.size⟩
theorem SeenSt.add (h : SeenSt b g w fv wv rv k t bad W) {q : Nat} (hq : W.heap.size ≤ q) : SeenSt b g w fv wv rv k t (q :: bad) W := ⟨h.bk, h.gs, h.out, h.is, h.tab.add hq, h.bel, h.size⟩
theorem SeenSt.less1 {p q : Nat} (h : SeenSt b g w fv wv rv k t [p, q] W) : SeenSt b g w fv wv rv k t [q] W := ⟨h.bk, h.gs, h.out, h.is, h.tab.less (by simp), h.bel, h.size⟩
theorem SeenSt.next {q : Nat} (h : SeenSt b g w fv wv rv k b.flows.length [q] W) : SeenSt b g w fv wv rv (k + 1) 0 [] W := ⟨h.bk, h.gs, h.out, h.is, by rw [← tabT_n]; exact h.tab.less (by simp), h.bel, h.size⟩
theorem SeenSt.more (h : SeenSt b g w fv wv rv k t bad W) (hk : Kept (fun k => k < w.heap.size + 4 ∨ k ∈ bad) W V) {t' : Nat} (hT : SpTab (w.heap.size + 4) (w.heap.size + 4) bad V (b.tabT g k t')) : SeenSt b g w fv wv rv k t' bad V := by
  have hs := h.size
  have H : ∀ n o, n < w.heap.size + 4 → W.heap[n]? = some o → V.heap[n]? = some o := fun n o hn ho => (hk.block n (Array.getElem?_eq_some_iff.1 ho).1 (.inl hn)).trans ho
  exact ⟨H _ _ (by omega) h.bk, H _ _ (by omega) h.gs, H _ _ (by omega) h.out, H _ _ (by omega) h.is, hT, h.bel.trans (hk.below h.bel.size fun k hk => .inl (by omega)), Nat.lt_of_lt_of_le hs hk.size⟩
end
set_option maxRecDepth 100000 in
set_option maxHeartbeats 8000000 in
theorem progSeen (fv wv rv : Value) (b : Bk) (g : Gs) (w : World) (hb : BookAt w fv wv rv b) (ok : Ok b) (hg : b.gsB g = true) :
    Calls Tryz.prog 37 #[bkV fv wv rv, gsV g] w (SeenPost b g w) := by
  have hmf : ∀ (fn : Fn) (first cap : Array Value) (w : World), (Instr.makeFunc fn first cap).run Tryz.prog w = .ok (.func fn first cap) w := fun _ _ _ _ => rfl
  have hb0 := Lib.hid hb
  obtain ⟨fa, fc, rfl, hfm, -⟩ := hb.first.form
  obtain ⟨wa, wc, rfl, hwm, -⟩ := hb.flows.form
  obtain ⟨ra, rc, rfl, hrm, -⟩ := hb.reads.form
  have hnd := ok.nd
  have hnz := ok.nz
  clear hb
  obtain ⟨W2, hW2⟩ : ∃ W, (((w.alloc (bkO (.slice fa b.first.length fc) (.slice wa b.flows.length wc) (.slice ra b.reads.length rc))).alloc (gsO g)).alloc (.cells #[.slice none 0 0] 44)).alloc (.cells #[.bool false] 4) = W := ⟨_, rfl⟩
  obtain ⟨e0, e1, e2, e3, hs2, hB2⟩ := four_new hW2
  obtain ⟨q0, q1, q2⟩ := rc3 e0
  obtain ⟨p0, p1, p2⟩ := rc3 e1
  have r0 := rc1 e2
  have t0 := rc1 e3
  have z0 := (Array.getElem?_eq_some_iff.1 e0).1
  have z1 := (Array.getElem?_eq_some_iff.1 e1).1
  have z2 := (Array.getElem?_eq_some_iff.1 e2).1
  have z3 := (Array.getElem?_eq_some_iff.1 e3).1
  have f2 := rf1 e2
  have hmk := make_rows W2 b.flows.length (by omega)
  rw [hs2] at hmk
  obtain ⟨X, hX⟩ : ∃ X, (W2.setCell ⟨w.heap.size + 1 + 1, 0, none⟩ (.slice (some ⟨w.heap.size + 4, 0, none⟩) b.flows.length b.flows.length)).alloc (.cells (Array.replicate b.flows.length (.slice none 0 0)) 43) = X := ⟨_, rfl⟩
  have hS0 : Hid (SeenSt b g w (.slice fa b.first.length fc) (.slice wa b.flows.length wc) (.slice ra b.reads.length rc) 0 0 [] X) := Lib.hid (by
    obtain ⟨V, hV⟩ : ∃ V, W2.setCell ⟨w.heap.size + 1 + 1, 0, none⟩ (.slice (some ⟨w.heap.size + 4, 0, none⟩) b.flows.length b.flows.length) = V := ⟨_, rfl⟩
    have hVs : V.heap.size = w.heap.size + 4 := by rw [← hV]; simp [World.setCell]; exact hs2
    have hVo : ∀ n o, n ≠ w.heap.size + 1 + 1 → W2.heap[n]? = some o → V.heap[n]? = some o := fun n o hn h => by rw [← hV]; exact (Below.heap_setCell _ _ _ _ (by simpa using hn)).trans h
    have hV2 := set_one e2 0 (.slice (some ⟨w.heap.size + 4, 0, none⟩) b.flows.length b.flows.length)
    rw [hV] at hV2 hX
    have hTm := OwnMat.made 43 23 2 spEnc (w.heap.size + 4) b.flows.length V (by omega)
    rw [hVs, hX] at hTm
    have hBV : Below w.heap.size w V := by rw [← hV]; exact hB2.setCell (p := ⟨w.heap.size + 1 + 1, 0, none⟩) (by show _ ≤ _ + 1 + 1; omega) _
    have hBX : Below V.heap.size V X := by rw [← hX]; exact (Below.refl _ _).alloc (Nat.le_refl _) _
    refine ⟨kept_block hBX (hVo _ _ (by omega) e0), kept_block hBX (hVo _ _ (by omega) e1), kept_block hBX hV2, kept_block hBX (hVo _ _ (by omega) e3), ⟨_, by rw [tabT_0]; exact hTm, fun _ _ k hk => by cases hk⟩, below_tr hBV hBX, ?_⟩
    rw [← hX, World.size_alloc]; omega)
  clear hs2
  obtain ⟨Q0, Q1, Q2⟩ := rc3 hS0.out.bk
  go_enter_defers Tryz.func37, Tryz.ntmps37
  go_wp2
  clear hX hmk f2 Q0 Q1 Q2 e0 e1 e2 e3 q0 q1 q2 p0 p1 p2 r0 t0 z0 z1 z2 z3 hW2 hB2
  go_loopw [22] (fun i wr => ∃ k : Nat, k ≤ b.first.length ∧ i = .int .i64 k ∧ Hid (SeenSt b g w (.slice fa b.first.length fc) (.slice wa b.flows.length wc) (.slice ra b.reads.length rc) k 0 [] wr ∧ ∀ z, z < k → b.zoneB g z = true)) (fun i _ => b.first.length - (intOf i).toNat)
  case atStart => exact ⟨0, by omega, rfl, hS0.out, fun z h => absurd h (by omega)⟩
  case round =>
    obtain ⟨k, hk, rfl, hH⟩ := hrel
    obtain ⟨hS, hok⟩ := hH.out
    clear hH hS0
    have hS' := Lib.hid hS
    obtain ⟨q0, q1, q2⟩ := rc3 hS.bk
    obtain ⟨p0, p1, p2⟩ := rc3 hS.gs
    have r0 := rc1 hS.out
    have t0 := rc1 hS.is
    have hsz := hS.size
    have z0 : w.heap.size < wr.heap.size := by omega
    have z1 : w.heap.size + 1 < wr.heap.size := by omega
    have z2 : w.heap.size + 1 + 1 < wr.heap.size := by omega
    have z3 : w.heap.size + 1 + 1 + 1 < wr.heap.size := by omega
    clear hS
    by_cases hlt : k < b.first.length
    · have hki : (k : Int) < (b.first.length : Int) := by omega
      have hmk := make_sps wr.drew b.flows.length (by omega)
      rw [show wr.drew.heap.size = wr.heap.size from rfl] at hmk
      go_wp2
      go_region
      obtain ⟨V0, hV0⟩ : ∃ V, (wr.alloc (.cells (spCells (List.replicate b.flows.length ⟨0, 0⟩)).toArray 23)).alloc (viO (.slice fa b.first.length fc) (.slice wa b.flows.length wc) (.slice ra b.reads.length rc) g k (.slice (some ⟨wr.heap.size, 0, none⟩) b.flows.length b.flows.length)) = V := ⟨_, rfl⟩
      obtain ⟨x0, x1, sV, BV0⟩ := two_new hV0
      obtain ⟨V, hV⟩ : ∃ V, V0.drew = V := ⟨_, rfl⟩
      have BV : Below wr.heap.size wr V := by rw [← hV]; exact BV0.drew
      have x0' : BlkAt V wr.heap.size (List.replicate b.flows.length ⟨0, 0⟩) := by rw [← hV]; exact x0
      have x1' : V.heap[wr.heap.size + 1]? = some (viO (.slice fa b.first.length fc) (.slice wa b.flows.length wc) (.slice ra b.reads.length rc) g k (.slice (some ⟨wr.heap.size, 0, none⟩) b.flows.length b.flows.length)) := by rw [← hV]; exact x1
      rw [hV0, hV]
      clear hV0 hV sV BV0 x0 x1 hmk q0 q1 q2 p0 p1 p2 r0 t0 z0 z1 z2 z3
      have hSV := Lib.hid (hS'.out.mono BV)
      have hVq : wr.heap.size < V.heap.size := (Array.getElem?_eq_some_iff.1 x0').1
      have hwV := Lib.hid hSV.out.bel
      have hB0 : ∀ {Y : World}, Kept (fun i => i ≠ wr.heap.size) V Y → Below wr.heap.size wr Y := fun {Y} h => below_tr' BV BV.size h
      have kF := Lib.hid (progForwards (wr.heap.size + 1) wr.heap.size b.flows.length _ _ _ b g k (List.replicate b.flows.length ⟨0, 0⟩) w V x1' x0' (by simp) hb0.out hwV.out (by omega) (by omega) ok hg hlt)
      have hx : ∀ (F1 F2 : Value) (w : World), (Instr.index 131 (.agg #[F1, F2]) (.int .i64 0)).run Tryz.prog w = .ok F1 w ∧ (Instr.index 131 (.agg #[F1, F2]) (.int .i64 1)).run Tryz.prog w = .ok F2 w := fun F1 F2 w => ⟨by kernel_rfl, by kernel_rfl⟩
      have hx0 := fun F1 F2 w => (hx F1 F2 w).1
      have hx1 := fun F1 F2 w => (hx F1 F2 w).2
      clear hx
      go_wp2
      obtain ⟨S, rfl⟩ : ∃ S : World, S = wr := ⟨_, rfl⟩
      go_loopw [40] (fun i w2 => (i = .int .i64 0 ∧ w2 = V) ∨ (i = .int .i64 1 ∧ Hid (b.zoneB g k = true ∧ Kept (fun i => i ≠ S.heap.size) V w2 ∧ BlkAt w2 S.heap.size (b.part g k (List.replicate b.flows.length ⟨0, 0⟩) b.flows.length))) ∨
        (i = .int .i64 2 ∧ Hid (b.zoneB g k = true ∧ Kept (fun i => i ≠ S.heap.size) V w2 ∧ BlkAt w2 S.heap.size (b.partB g k (b.part g k (List.replicate b.flows.length ⟨0, 0⟩) b.flows.length) b.flows.length)))) (fun i _ => 2 - (intOf i).toNat)
      case atStart => exact .inl ⟨rfl, rfl⟩
      case round =>
        rcases hrel with ⟨rfl, rfl⟩ | ⟨rfl, hI⟩ | ⟨rfl, hI⟩
        · go_wp2_with (go_at_call 60; (with_reducible refine Calls.mono kF.out ?_))
          rintro e Y ⟨hk, ⟨hz, rfl, hq⟩ | ⟨hz, rfl⟩⟩
          · have hI : Hid (b.zoneB g k = true ∧ Kept (fun i => i ≠ S.heap.size) wr Y ∧ BlkAt Y S.heap.size (b.part g k (List.replicate b.flows.length ⟨0, 0⟩) b.flows.length)) := Lib.hid ⟨hz, hk, hq⟩
            clear hz hk hq
            go_wp2
            exact ⟨.inr (.inl ⟨rfl, hI⟩), by simp [intOf]⟩
          · have hSY := hS'.out.mono (hB0 hk)
            refine leaves_cons (f := 59) (args := #[.pointer (some ⟨w.heap.size + 1 + 1, 0, none⟩), .pointer (some ⟨w.heap.size + 1 + 1 + 1, 0, none⟩)]) (by simp) (by simp [go_sem]) ?_
            refine (seen_catch w.heap.size (w.heap.size + 1 + 1) (w.heap.size + 1 + 1 + 1) k _ _ [] _ hSY.out hSY.is (by omega) (by omega) (by omega)).mono ?_
            rintro e u' w'' ⟨rfl, rfl, n1, n2, hBf⟩
            have hno := Lib.hid (agree_no hlt hz)
            have hBl := Lib.hid hSY.bel
            clear hSY
            simp [Leaves, settle, results, Tryz.results37, go_sem, n1, n2]
            exact ⟨hBl.out.trans hBf, .inr ⟨hno.out, rfl⟩⟩
        · obtain ⟨hz, hk1, hq1⟩ := hI.out
          have hz0 := Lib.hid hz
          have hv1 := (hk1.block _ (Array.getElem?_eq_some_iff.1 x1').1 (by omega)).trans x1'
          have hwr := hS'.out.mono (hB0 hk1)
          have kBk := Lib.hid (progBackwards (S.heap.size + 1) S.heap.size b.flows.length _ _ _ b g k _ w wr hv1 hq1 (by rw [part_len]; simp) (fun t ht => part_at _ t (by simp) ht) hb0.out hwr.bel (by omega) (by omega) ok hg hlt hz)
          have hkh := Lib.hid hk1
          clear hz hk1 hq1 hv1 hwr hI
          go_wp2_with (go_at_call 61; (with_reducible refine Calls.mono kBk.out ?_))
          rintro e Y ⟨rfl, hk, hq⟩
          have hI2 : Hid (b.zoneB g k = true ∧ Kept (fun i => i ≠ S.heap.size) V Y ∧ BlkAt Y S.heap.size (b.partB g k (b.part g k (List.replicate b.flows.length ⟨0, 0⟩) b.flows.length) b.flows.length)) := Lib.hid ⟨hz0.out, hkh.out.trans hk, hq⟩
          clear hk hq
          go_wp2
          exact ⟨.inr (.inr ⟨rfl, hI2⟩), by simp [intOf]⟩
        · obtain ⟨hz, hk2, hq2⟩ := hI.out
          have hv2 := (hk2.block _ (Array.getElem?_eq_some_iff.1 x1').1 (by omega)).trans x1'
          obtain ⟨v0, v1, v2, v3, v4, v5, v6, v7⟩ := rc8 hv2
          have zv := (Array.getElem?_eq_some_iff.1 hv2).1
          have hS2 := Lib.hid ((hS'.out.add (Nat.le_refl _)).mono (hB0 hk2))
          have hlen : (b.part g k (List.replicate b.flows.length ⟨0, 0⟩) b.flows.length).length = b.flows.length := by rw [part_len]; simp
          have hlf : Hid (∀ t, t < b.flows.length → spAt (b.partB g k (b.part g k (List.replicate b.flows.length ⟨0, 0⟩) b.flows.length) b.flows.length) t = b.bnd g k t) := Lib.hid fun t ht => by
            rw [partB_at hlen _ t (Nat.le_refl _) ht, if_pos (by omega)]
          have hll : Hid ((b.partB g k (b.part g k (List.replicate b.flows.length ⟨0, 0⟩) b.flows.length) b.flows.length).length = b.flows.length) := Lib.hid (by rw [partB_len]; exact hlen)
          generalize b.partB g k (b.part g k (List.replicate b.flows.length ⟨0, 0⟩) b.flows.length) b.flows.length = lf at *
          have hq3 := Lib.hid hq2
          have hlen2 : Hid (k < b.first.length) := hlt
          have hz3 := Lib.hid hz
          clear hI hq2 hk2 hz hlen kF hx0 hx1 x0' x1' hS' hSV hB0 BV hwV hVq
          go_wp2
          clear v0 v1 v2 v3 v4 v5 v6 v7 zv hv2
          go_loopw [51] (fun i w3 => ∃ t : Nat, t ≤ b.flows.length ∧ i = .int .i64 t ∧ Hid (SeenSt b g w (.slice fa b.first.length fc) (.slice wa b.flows.length wc) (.slice ra b.reads.length rc) k t [S.heap.size] w3 ∧ BlkAt w3 S.heap.size lf)) (fun i _ => b.flows.length - (intOf i).toNat)
          case atStart => exact ⟨0, by omega, rfl, hS2.out, hq3.out⟩
          case round =>
            obtain ⟨t, ht, rfl, hH⟩ := hrel
            obtain ⟨hS3, hq4⟩ := hH.out
            clear hH hS2 hq3
            by_cases htl : t < b.flows.length
            · have hti : (t : Int) < (b.flows.length : Int) := by omega
              obtain ⟨⟨c0, c1⟩, -, -⟩ := hq4.cell (k := t) (by rw [hll.out]; exact htl)
              rw [hlf.out t htl] at c0 c1
              have hzq := hq4.lt
              have hS4 := Lib.hid (hS3.add (Nat.le_refl _))
              have hat0 : Hid (((b.tabT g k t).getD t []).length ≤ 1000) := Lib.hid (by rw [tabT_at htl]; simp; have := hlen2.out; omega)
              have hmore := Lib.hid (tabT_more (b := b) (g := g) (k := k) htl)
              have hrl := Lib.hid (tabT_len (b := b) (g := g) (k := k) (t := t))
              have htab := Lib.hid hS4.out.tab
              generalize b.bnd g k t = s at *
              generalize b.tabT g k t = rows at *
              clear hS3 hlf
              go_wp2
              obtain ⟨X, hX⟩ : ∃ X, wr.alloc (.cells #[.int .i64 s.lo, .int .i64 s.hi] 23) = X := ⟨_, rfl⟩
              obtain ⟨e4, B4, s4⟩ := boxed hX
              rw [hX]
              have hSX := Lib.hid (hS4.out.mono B4)
              have hq5 := Lib.hid (hq4.mono B4)
              obtain ⟨vs, hM, hnb⟩ := htab.out.mono B4
              have u0 := rc1 hSX.out.out
              obtain ⟨y0, y1⟩ := rc2 e4
              have hlt2 : Hid (∀ k, k ∈ [wr.heap.size, S.heap.size] → k < X.heap.size) := Lib.hid (by intro k hk; rcases List.mem_cons.1 hk with rfl | hk; omega; rw [List.mem_singleton.1 hk]; omega)
              have hbb : Hid (w.heap.size + 4 ∉ [wr.heap.size, S.heap.size]) := Lib.hid (by simp; omega)
              have hT3 : w.heap.size + 4 < wr.heap.size := by omega
              clear hX s4 hS4 hq4 c0 c1 e4 B4 hzq htab
              obtain ⟨x1, x2⟩ := row_len hM (i := t) (by rw [hrl.out]; exact htl)
              have hown := hM.own (t) (by rw [hrl.out]; exact htl)
              have hne := hM.ne (t) (by rw [hrl.out]; exact htl)
              have hnb2 := hnb (t) (by rw [hrl.out]; exact htl)
              obtain ⟨i0, hi0, hz0, hz1, hz2⟩ := info_parts infoSp
              have hL : ((rows).getD (t) []).length ≤ 1000 := hat0.out
              obtain ⟨v0, hv0⟩ : ∃ v0, valAt vs (t) = v0 := ⟨_, rfl⟩
              rw [hv0] at x1 hown hne hnb2
              have hlow : ∀ k, k < (w.heap.size+4) → v0.ownBlock ≠ some k := fun k hk e => by have := (hown.lt k e).1; omega
              have al0 : v0.ownBlock ≠ some (w.heap.size + 1 + 1) := hlow _ (by omega)
              have al1 : v0.ownBlock ≠ some (wr.heap.size) := hnb2 _ (by simp)
              have al2 : v0.ownBlock ≠ some (wr.heap.size) := hnb2 _ (by simp)
              have kx : ∀ (o : Obj) (b off : Nat) (v : Value), X.cell? ⟨b, off, none⟩ = some v → (X.alloc o).drew.cell? ⟨b, off, none⟩ = some v := fun o b off v h => kept_cell (((Below.refl _ _).alloc (Nat.le_refl _) o).drew) h
              have fx : ∀ (o : Obj), (X.alloc o).drew.frozen? ⟨(w.heap.size+4), t, none⟩ = false := fun o => ((((Below.refl X.heap.size X).alloc (Nat.le_refl _) o).drew).frozen (p := ⟨(w.heap.size+4), t, none⟩) (World.block_lt_of_cell? _ ⟨_, _, none⟩ x1)).trans x2
              have hl1 : ((rows).getD (t) []).length + 1 ≤ maxLen := by unfold maxLen; omega
              have hl2 : (((rows).getD (t) []).length + 1) * 16 ≤ 140737488355328 := by omega
              have hbl : (w.heap.size+4) < X.heap.size := World.block_lt_of_cell? _ ⟨_, _, none⟩ x1
              have zl0 : w.heap.size + 1 + 1 < X.heap.size := World.block_lt_of_cell? _ ⟨_, _, none⟩ u0
              have zl1 : wr.heap.size < X.heap.size := World.block_lt_of_cell? _ ⟨_, _, none⟩ y0
              have zl2 : wr.heap.size < X.heap.size := World.block_lt_of_cell? _ ⟨_, _, none⟩ y1
              refine wp_region_noPanic ?_
              refine wp_region_held_drew (S := (fun w' => w'.cell? ⟨w.heap.size + 1 + 1, 0, none⟩ = some (.slice (some ⟨w.heap.size + 4, 0, none⟩) b.flows.length b.flows.length) ∧ w'.cell? ⟨wr.heap.size, 0, none⟩ = some (.int .i64 s.lo) ∧ w'.cell? ⟨wr.heap.size, 1, none⟩ = some (.int .i64 s.hi))) (by kernel_rfl) ?_ (fun hHeld => ?_)
              · first | (first | (go_keep; done) | exact ⟨kx _ _ _ _ u0, kx _ _ _ _ y0, kx _ _ _ _ y1⟩ | exact ⟨hc0, hc1, hc2⟩ | exact ⟨(World.cell?_setCell_far _ _ _ _ (by show ((w.heap.size+4) : Nat) ≠ w.heap.size + 1 + 1; omega)).trans hc0, (World.cell?_setCell_far _ _ _ _ (by show ((w.heap.size+4) : Nat) ≠ wr.heap.size; omega)).trans hc1, (World.cell?_setCell_far _ _ _ _ (by show ((w.heap.size+4) : Nat) ≠ wr.heap.size; omega)).trans hc2⟩) | (dsimp only; (first | (go_keep; done) | exact ⟨kx _ _ _ _ u0, kx _ _ _ _ y0, kx _ _ _ _ y1⟩ | exact ⟨hc0, hc1, hc2⟩ | exact ⟨(World.cell?_setCell_far _ _ _ _ (by show ((w.heap.size+4) : Nat) ≠ w.heap.size + 1 + 1; omega)).trans hc0, (World.cell?_setCell_far _ _ _ _ (by show ((w.heap.size+4) : Nat) ≠ wr.heap.size; omega)).trans hc1, (World.cell?_setCell_far _ _ _ _ (by show ((w.heap.size+4) : Nat) ≠ wr.heap.size; omega)).trans hc2⟩))
              refine wpAnyH_take (i := 0) (v := ?_) rfl (by kernel_rfl) (by kernel_rfl) (by kernel_rfl) (fun _ _ _ h => h) (Or.inl ⟨by rfl, ?_⟩) (by assumption) ?_
              rotate_left
              · intro w hSw; (try dsimp only at hSw); go_simp; (try with_reducible rfl)
              try simp only [Act.put, List.setIfInBounds_toArray, List.set_cons_zero, List.set_cons_succ]
              refine wpAnyH_take (i := 1) (v := ?_) rfl (by kernel_rfl) (by kernel_rfl) (by kernel_rfl) (fun _ _ _ h => h) (Or.inl ⟨by rfl, ?_⟩) (by assumption) ?_
              rotate_left
              · intro w hSw; (try dsimp only at hSw); go_simp; (try with_reducible rfl)
              try simp only [Act.put, List.setIfInBounds_toArray, List.set_cons_zero, List.set_cons_succ]
              refine wpAnyH_take (i := 2) (v := ?_) rfl (by kernel_rfl) (by kernel_rfl) (by kernel_rfl) (fun _ _ _ h => h) (Or.inl ⟨by rfl, ?_⟩) (by assumption) ?_
              rotate_left
              · intro w hSw; (try dsimp only at hSw); go_simp; (try with_reducible rfl)
              try simp only [Act.put, List.setIfInBounds_toArray, List.set_cons_zero, List.set_cons_succ]
              refine wpAnyH_take (i := 3) (v := ?_) rfl (by kernel_rfl) (by kernel_rfl) (by kernel_rfl) (fun _ _ _ h => h) (Or.inl ⟨by rfl, ?_⟩) (by assumption) ?_
              rotate_left
              · intro w hSw; (try dsimp only at hSw); go_simp; (try with_reducible rfl)
              try simp only [Act.put, List.setIfInBounds_toArray, List.set_cons_zero, List.set_cons_succ]
              refine wpAnyH_take (i := 4) (v := ?_) rfl (by kernel_rfl) (by kernel_rfl) (by kernel_rfl) (fun _ _ _ h => h) (Or.inl ⟨by rfl, ?_⟩) (by assumption) ?_
              rotate_left
              · intro w hSw; (try dsimp only at hSw); go_simp; (try with_reducible rfl)
              try simp only [Act.put, List.setIfInBounds_toArray, List.set_cons_zero, List.set_cons_succ]
              refine wpAnyH_take (i := 6) (v := ?_) rfl (by kernel_rfl) (by kernel_rfl) (by kernel_rfl) (fun _ _ _ h => h) (Or.inl ⟨by rfl, ?_⟩) (by assumption) ?_
              rotate_left
              · intro w hSw; (try dsimp only at hSw); go_simp; (try with_reducible rfl)
              try simp only [Act.put, List.setIfInBounds_toArray, List.set_cons_zero, List.set_cons_succ]
              refine wpAnyH_ready (rs := [5, 7]) (by kernel_rfl) (by simp) ?_
              refine AllReadyH.cons rfl (fun K hK => ?wayA22066) (AllReadyH.cons rfl (fun K hK => ?wayB22066) AllReadyH.nil)
              case' wayA22066 =>
                go_simp
                refine hK.out _ _ ?_ (fun hNow => ?_)
                · first | (first | (go_keep; done) | exact ⟨kx _ _ _ _ u0, kx _ _ _ _ y0, kx _ _ _ _ y1⟩ | exact ⟨hc0, hc1, hc2⟩ | exact ⟨(World.cell?_setCell_far _ _ _ _ (by show ((w.heap.size+4) : Nat) ≠ w.heap.size + 1 + 1; omega)).trans hc0, (World.cell?_setCell_far _ _ _ _ (by show ((w.heap.size+4) : Nat) ≠ wr.heap.size; omega)).trans hc1, (World.cell?_setCell_far _ _ _ _ (by show ((w.heap.size+4) : Nat) ≠ wr.heap.size; omega)).trans hc2⟩) | (dsimp only; (first | (go_keep; done) | exact ⟨kx _ _ _ _ u0, kx _ _ _ _ y0, kx _ _ _ _ y1⟩ | exact ⟨hc0, hc1, hc2⟩ | exact ⟨(World.cell?_setCell_far _ _ _ _ (by show ((w.heap.size+4) : Nat) ≠ w.heap.size + 1 + 1; omega)).trans hc0, (World.cell?_setCell_far _ _ _ _ (by show ((w.heap.size+4) : Nat) ≠ wr.heap.size; omega)).trans hc1, (World.cell?_setCell_far _ _ _ _ (by show ((w.heap.size+4) : Nat) ≠ wr.heap.size; omega)).trans hc2⟩))
                clear hK K hHeld
                have hHeld := hNow
                clear hNow
                try simp only [Act.put, List.setIfInBounds_toArray, List.set_cons_zero, List.set_cons_succ]
                refine wpAnyH_ready (rs := [7]) (by kernel_rfl) (by simp) ?_
                refine AllReadyH.cons rfl (fun K hK => ?_) AllReadyH.nil
                go_simp
                refine hK.out _ _ ?_ (fun hNow => ?_)
                · first | (first | (go_keep; done) | exact ⟨kx _ _ _ _ u0, kx _ _ _ _ y0, kx _ _ _ _ y1⟩ | exact ⟨hc0, hc1, hc2⟩ | exact ⟨(World.cell?_setCell_far _ _ _ _ (by show ((w.heap.size+4) : Nat) ≠ w.heap.size + 1 + 1; omega)).trans hc0, (World.cell?_setCell_far _ _ _ _ (by show ((w.heap.size+4) : Nat) ≠ wr.heap.size; omega)).trans hc1, (World.cell?_setCell_far _ _ _ _ (by show ((w.heap.size+4) : Nat) ≠ wr.heap.size; omega)).trans hc2⟩) | (dsimp only; (first | (go_keep; done) | exact ⟨kx _ _ _ _ u0, kx _ _ _ _ y0, kx _ _ _ _ y1⟩ | exact ⟨hc0, hc1, hc2⟩ | exact ⟨(World.cell?_setCell_far _ _ _ _ (by show ((w.heap.size+4) : Nat) ≠ w.heap.size + 1 + 1; omega)).trans hc0, (World.cell?_setCell_far _ _ _ _ (by show ((w.heap.size+4) : Nat) ≠ wr.heap.size; omega)).trans hc1, (World.cell?_setCell_far _ _ _ _ (by show ((w.heap.size+4) : Nat) ≠ wr.heap.size; omega)).trans hc2⟩))
                clear hK K hHeld
                have hHeld := hNow
                clear hNow
                try simp only [Act.put, List.setIfInBounds_toArray, List.set_cons_zero, List.set_cons_succ]
                refine wpAnyH_ready (rs := [8]) (by kernel_rfl) (by simp) ?_
                refine AllReadyH.cons rfl (fun K hK => ?_) AllReadyH.nil
                ((refine step_append_lies _ (by rfl) _ _ _ (by rfl) (w.heap.size+4) 23 i0 _ 2 16 Tryz.underlying43 hi0 hz0 hz1 hz2 rfl (by decide) v0 _ _ (by rfl) ((World.ownsRow.alloc hown _).drew) ⟨X.heap.size, 0, none⟩ 1 1 [.int .i64 s.lo, .int .i64 s.hi] (by rfl) (by rfl) (World.news_of_block (cs := #[.int .i64 s.lo, .int .i64 s.hi]) (t := 23) (fr := (0, 0)) (heap_alloc_new X _)) (by simp [Value.oneCell']) (by decide) hl1 hl2 (by simp; omega) (X.heap.size + 1) (by simp) ?_; intro gg gcap w1 hown1 hgrow hat hglt; have hc0 := (hgrow.cell_far _ (by simp; omega) (Ne.symm al0)).trans (kx _ _ _ _ u0); have hc1 := (hgrow.cell_far _ (by simp; omega) (Ne.symm al1)).trans (kx _ _ _ _ y0); have hc2 := (hgrow.cell_far _ (by simp; omega) (Ne.symm al2)).trans (kx _ _ _ _ y1); have hcz : w1.cell? ⟨(w.heap.size+4), t, none⟩ = some v0 := (hgrow.cell_far _ (by simp; omega) (Ne.symm hne)).trans (kx _ _ _ _ x1); have hfz : w1.frozen? ⟨(w.heap.size+4), t, none⟩ = false := (hgrow.frozen_far _ (by simp; omega) (Ne.symm hne)).trans (fx _)))
                refine hK.out _ _ ?_ (fun hNow => ?_)
                · first | (first | (go_keep; done) | exact ⟨kx _ _ _ _ u0, kx _ _ _ _ y0, kx _ _ _ _ y1⟩ | exact ⟨hc0, hc1, hc2⟩ | exact ⟨(World.cell?_setCell_far _ _ _ _ (by show ((w.heap.size+4) : Nat) ≠ w.heap.size + 1 + 1; omega)).trans hc0, (World.cell?_setCell_far _ _ _ _ (by show ((w.heap.size+4) : Nat) ≠ wr.heap.size; omega)).trans hc1, (World.cell?_setCell_far _ _ _ _ (by show ((w.heap.size+4) : Nat) ≠ wr.heap.size; omega)).trans hc2⟩) | (dsimp only; (first | (go_keep; done) | exact ⟨kx _ _ _ _ u0, kx _ _ _ _ y0, kx _ _ _ _ y1⟩ | exact ⟨hc0, hc1, hc2⟩ | exact ⟨(World.cell?_setCell_far _ _ _ _ (by show ((w.heap.size+4) : Nat) ≠ w.heap.size + 1 + 1; omega)).trans hc0, (World.cell?_setCell_far _ _ _ _ (by show ((w.heap.size+4) : Nat) ≠ wr.heap.size; omega)).trans hc1, (World.cell?_setCell_far _ _ _ _ (by show ((w.heap.size+4) : Nat) ≠ wr.heap.size; omega)).trans hc2⟩))
                clear hK K hHeld
                have hHeld := hNow
                clear hNow
                try simp only [Act.put, List.setIfInBounds_toArray, List.set_cons_zero, List.set_cons_succ]
                refine wpAnyH_take (i := 9) (v := ?_) rfl (by kernel_rfl) (by kernel_rfl) (by kernel_rfl) (fun _ _ _ h => h) (Or.inl ⟨by rfl, ?_⟩) (by assumption) ?_
                rotate_left
                · intro w hSw; (try dsimp only at hSw); go_simp; (try with_reducible rfl)
                try simp only [Act.put, List.setIfInBounds_toArray, List.set_cons_zero, List.set_cons_succ]
                refine wpAnyH_ready (rs := [10]) (by kernel_rfl) (by simp) ?_
                refine AllReadyH.cons rfl (fun K hK => ?_) AllReadyH.nil
                go_simp
                refine hK.out _ _ ?_ (fun hNow => ?_)
                · first | (first | (go_keep; done) | exact ⟨kx _ _ _ _ u0, kx _ _ _ _ y0, kx _ _ _ _ y1⟩ | exact ⟨hc0, hc1, hc2⟩ | exact ⟨(World.cell?_setCell_far _ _ _ _ (by show ((w.heap.size+4) : Nat) ≠ w.heap.size + 1 + 1; omega)).trans hc0, (World.cell?_setCell_far _ _ _ _ (by show ((w.heap.size+4) : Nat) ≠ wr.heap.size; omega)).trans hc1, (World.cell?_setCell_far _ _ _ _ (by show ((w.heap.size+4) : Nat) ≠ wr.heap.size; omega)).trans hc2⟩) | (dsimp only; (first | (go_keep; done) | exact ⟨kx _ _ _ _ u0, kx _ _ _ _ y0, kx _ _ _ _ y1⟩ | exact ⟨hc0, hc1, hc2⟩ | exact ⟨(World.cell?_setCell_far _ _ _ _ (by show ((w.heap.size+4) : Nat) ≠ w.heap.size + 1 + 1; omega)).trans hc0, (World.cell?_setCell_far _ _ _ _ (by show ((w.heap.size+4) : Nat) ≠ wr.heap.size; omega)).trans hc1, (World.cell?_setCell_far _ _ _ _ (by show ((w.heap.size+4) : Nat) ≠ wr.heap.size; omega)).trans hc2⟩))
                clear hK K hHeld
                have hHeld := hNow
                clear hNow
                try simp only [Act.put, List.setIfInBounds_toArray, List.set_cons_zero, List.set_cons_succ]
                refine wpAnyH_done (by kernel_rfl) ?_ _
                refine NoPanic.normal ?_
              case' wayB22066 =>
                go_simp
                refine hK.out _ _ ?_ (fun hNow => ?_)
                · first | (first | (go_keep; done) | exact ⟨kx _ _ _ _ u0, kx _ _ _ _ y0, kx _ _ _ _ y1⟩ | exact ⟨hc0, hc1, hc2⟩ | exact ⟨(World.cell?_setCell_far _ _ _ _ (by show ((w.heap.size+4) : Nat) ≠ w.heap.size + 1 + 1; omega)).trans hc0, (World.cell?_setCell_far _ _ _ _ (by show ((w.heap.size+4) : Nat) ≠ wr.heap.size; omega)).trans hc1, (World.cell?_setCell_far _ _ _ _ (by show ((w.heap.size+4) : Nat) ≠ wr.heap.size; omega)).trans hc2⟩) | (dsimp only; (first | (go_keep; done) | exact ⟨kx _ _ _ _ u0, kx _ _ _ _ y0, kx _ _ _ _ y1⟩ | exact ⟨hc0, hc1, hc2⟩ | exact ⟨(World.cell?_setCell_far _ _ _ _ (by show ((w.heap.size+4) : Nat) ≠ w.heap.size + 1 + 1; omega)).trans hc0, (World.cell?_setCell_far _ _ _ _ (by show ((w.heap.size+4) : Nat) ≠ wr.heap.size; omega)).trans hc1, (World.cell?_setCell_far _ _ _ _ (by show ((w.heap.size+4) : Nat) ≠ wr.heap.size; omega)).trans hc2⟩))
                clear hK K hHeld
                have hHeld := hNow
                clear hNow
                try simp only [Act.put, List.setIfInBounds_toArray, List.set_cons_zero, List.set_cons_succ]
                refine wpAnyH_ready (rs := [5]) (by kernel_rfl) (by simp) ?_
                refine AllReadyH.cons rfl (fun K hK => ?_) AllReadyH.nil
                go_simp
                refine hK.out _ _ ?_ (fun hNow => ?_)
                · first | (first | (go_keep; done) | exact ⟨kx _ _ _ _ u0, kx _ _ _ _ y0, kx _ _ _ _ y1⟩ | exact ⟨hc0, hc1, hc2⟩ | exact ⟨(World.cell?_setCell_far _ _ _ _ (by show ((w.heap.size+4) : Nat) ≠ w.heap.size + 1 + 1; omega)).trans hc0, (World.cell?_setCell_far _ _ _ _ (by show ((w.heap.size+4) : Nat) ≠ wr.heap.size; omega)).trans hc1, (World.cell?_setCell_far _ _ _ _ (by show ((w.heap.size+4) : Nat) ≠ wr.heap.size; omega)).trans hc2⟩) | (dsimp only; (first | (go_keep; done) | exact ⟨kx _ _ _ _ u0, kx _ _ _ _ y0, kx _ _ _ _ y1⟩ | exact ⟨hc0, hc1, hc2⟩ | exact ⟨(World.cell?_setCell_far _ _ _ _ (by show ((w.heap.size+4) : Nat) ≠ w.heap.size + 1 + 1; omega)).trans hc0, (World.cell?_setCell_far _ _ _ _ (by show ((w.heap.size+4) : Nat) ≠ wr.heap.size; omega)).trans hc1, (World.cell?_setCell_far _ _ _ _ (by show ((w.heap.size+4) : Nat) ≠ wr.heap.size; omega)).trans hc2⟩))
                clear hK K hHeld
                have hHeld := hNow
                clear hNow
                try simp only [Act.put, List.setIfInBounds_toArray, List.set_cons_zero, List.set_cons_succ]
                refine wpAnyH_ready (rs := [8]) (by kernel_rfl) (by simp) ?_
                refine AllReadyH.cons rfl (fun K hK => ?_) AllReadyH.nil
                ((refine step_append_lies _ (by rfl) _ _ _ (by rfl) (w.heap.size+4) 23 i0 _ 2 16 Tryz.underlying43 hi0 hz0 hz1 hz2 rfl (by decide) v0 _ _ (by rfl) ((World.ownsRow.alloc hown _).drew) ⟨X.heap.size, 0, none⟩ 1 1 [.int .i64 s.lo, .int .i64 s.hi] (by rfl) (by rfl) (World.news_of_block (cs := #[.int .i64 s.lo, .int .i64 s.hi]) (t := 23) (fr := (0, 0)) (heap_alloc_new X _)) (by simp [Value.oneCell']) (by decide) hl1 hl2 (by simp; omega) (X.heap.size + 1) (by simp) ?_; intro gg gcap w1 hown1 hgrow hat hglt; have hc0 := (hgrow.cell_far _ (by simp; omega) (Ne.symm al0)).trans (kx _ _ _ _ u0); have hc1 := (hgrow.cell_far _ (by simp; omega) (Ne.symm al1)).trans (kx _ _ _ _ y0); have hc2 := (hgrow.cell_far _ (by simp; omega) (Ne.symm al2)).trans (kx _ _ _ _ y1); have hcz : w1.cell? ⟨(w.heap.size+4), t, none⟩ = some v0 := (hgrow.cell_far _ (by simp; omega) (Ne.symm hne)).trans (kx _ _ _ _ x1); have hfz : w1.frozen? ⟨(w.heap.size+4), t, none⟩ = false := (hgrow.frozen_far _ (by simp; omega) (Ne.symm hne)).trans (fx _)))
                refine hK.out _ _ ?_ (fun hNow => ?_)
                · first | (first | (go_keep; done) | exact ⟨kx _ _ _ _ u0, kx _ _ _ _ y0, kx _ _ _ _ y1⟩ | exact ⟨hc0, hc1, hc2⟩ | exact ⟨(World.cell?_setCell_far _ _ _ _ (by show ((w.heap.size+4) : Nat) ≠ w.heap.size + 1 + 1; omega)).trans hc0, (World.cell?_setCell_far _ _ _ _ (by show ((w.heap.size+4) : Nat) ≠ wr.heap.size; omega)).trans hc1, (World.cell?_setCell_far _ _ _ _ (by show ((w.heap.size+4) : Nat) ≠ wr.heap.size; omega)).trans hc2⟩) | (dsimp only; (first | (go_keep; done) | exact ⟨kx _ _ _ _ u0, kx _ _ _ _ y0, kx _ _ _ _ y1⟩ | exact ⟨hc0, hc1, hc2⟩ | exact ⟨(World.cell?_setCell_far _ _ _ _ (by show ((w.heap.size+4) : Nat) ≠ w.heap.size + 1 + 1; omega)).trans hc0, (World.cell?_setCell_far _ _ _ _ (by show ((w.heap.size+4) : Nat) ≠ wr.heap.size; omega)).trans hc1, (World.cell?_setCell_far _ _ _ _ (by show ((w.heap.size+4) : Nat) ≠ wr.heap.size; omega)).trans hc2⟩))
                clear hK K hHeld
                have hHeld := hNow
                clear hNow
                try simp only [Act.put, List.setIfInBounds_toArray, List.set_cons_zero, List.set_cons_succ]
                refine wpAnyH_take (i := 9) (v := ?_) rfl (by kernel_rfl) (by kernel_rfl) (by kernel_rfl) (fun _ _ _ h => h) (Or.inl ⟨by rfl, ?_⟩) (by assumption) ?_
                rotate_left
                · intro w hSw; (try dsimp only at hSw); go_simp; (try with_reducible rfl)
                try simp only [Act.put, List.setIfInBounds_toArray, List.set_cons_zero, List.set_cons_succ]
                refine wpAnyH_ready (rs := [10]) (by kernel_rfl) (by simp) ?_
                refine AllReadyH.cons rfl (fun K hK => ?_) AllReadyH.nil
                go_simp
                refine hK.out _ _ ?_ (fun hNow => ?_)
                · first | (first | (go_keep; done) | exact ⟨kx _ _ _ _ u0, kx _ _ _ _ y0, kx _ _ _ _ y1⟩ | exact ⟨hc0, hc1, hc2⟩ | exact ⟨(World.cell?_setCell_far _ _ _ _ (by show ((w.heap.size+4) : Nat) ≠ w.heap.size + 1 + 1; omega)).trans hc0, (World.cell?_setCell_far _ _ _ _ (by show ((w.heap.size+4) : Nat) ≠ wr.heap.size; omega)).trans hc1, (World.cell?_setCell_far _ _ _ _ (by show ((w.heap.size+4) : Nat) ≠ wr.heap.size; omega)).trans hc2⟩) | (dsimp only; (first | (go_keep; done) | exact ⟨kx _ _ _ _ u0, kx _ _ _ _ y0, kx _ _ _ _ y1⟩ | exact ⟨hc0, hc1, hc2⟩ | exact ⟨(World.cell?_setCell_far _ _ _ _ (by show ((w.heap.size+4) : Nat) ≠ w.heap.size + 1 + 1; omega)).trans hc0, (World.cell?_setCell_far _ _ _ _ (by show ((w.heap.size+4) : Nat) ≠ wr.heap.size; omega)).trans hc1, (World.cell?_setCell_far _ _ _ _ (by show ((w.heap.size+4) : Nat) ≠ wr.heap.size; omega)).trans hc2⟩))
                clear hK K hHeld
                have hHeld := hNow
                clear hNow
                try simp only [Act.put, List.setIfInBounds_toArray, List.set_cons_zero, List.set_cons_succ]
                refine wpAnyH_done (by kernel_rfl) ?_ _
                refine NoPanic.normal ?_
              all_goals
                have hgX : X.grownBy w1 (valAt vs (t)).ownBlock := by rw [hv0]; exact grownBy_trans (World.grownBy_alloc X _ _) ⟨hgrow.os, hgrow.tape, hgrow.output, hgrow.size, hgrow.block⟩
                have hq := tab_more (y := s) hM hnb (by rw [hrl.out]; exact htl) hlt2.out hbb.out rfl hown1 hgX (by rw [hv0]; rcases hat with e | e; exact .inl e; exact .inr (by omega))
                rw [hmore.out] at hq
                obtain ⟨hq1, hq2⟩ := hq
                have hS5 := Lib.hid ((hSX.out.more hq2 hq1).less1)
                have hq6 := Lib.hid ((hq2.block S.heap.size hq5.out.lt (.inr (by simp))).trans hq5.out)
                clear hM hq1 hq2 hown1 hgrow hgX x1 x2 fx kx hc0 hc1 hc2 hcz hfz u0 y0 y1 hSX hq5 hnb hat hglt hown hne hnb2 hlow al0 al1 al2 zl0 zl1 zl2 hl1 hl2 hbl hL
                go_wp2
                exact ⟨⟨t + 1, by omega, by go_num, hS5.out, hq6.out⟩, by simp [intOf]; omega⟩
            · obtain rfl : t = b.flows.length := by omega
              have hS6 := Lib.hid hS3.next
              have hok6 : Hid (∀ z, z < k + 1 → b.zoneB g z = true) := Lib.hid fun z hz => by
                rcases Nat.lt_succ_iff_lt_or_eq.1 hz with h | rfl
                · exact hok z h
                · exact hz3.out
              clear hS3 hq4 hok
              go_wp2
              exact ⟨⟨k + 1, by omega, by go_num, hS6.out, hok6.out⟩, by simp [intOf]; omega⟩
    · obtain rfl : k = b.first.length := by omega
      have f0 := rf1 hS'.out.out
      have f1 := rf1 hS'.out.is
      have hag := Lib.hid (agree_all hok)
      have hres : ∀ v, Hid (SeenPost b g w (.returned (.tuple #[.slice (some ⟨w.heap.size + 4, 0, none⟩) b.flows.length b.flows.length, .bool true])) ((wr.setCell ⟨w.heap.size + 1 + 1, 0, none⟩ v).setCell ⟨w.heap.size + 1 + 1 + 1, 0, none⟩ (.bool true))) := fun v => Lib.hid (by
        refine ⟨(hS'.out.bel.setCell (p := ⟨w.heap.size + 1 + 1, 0, none⟩) (by show _ ≤ _ + 1 + 1; omega) v).setCell (p := ⟨w.heap.size + 1 + 1 + 1, 0, none⟩) (by show _ ≤ _ + 1 + 1 + 1; omega) _, .inl ⟨hag.out, _, rfl, ?_⟩⟩
        obtain ⟨vs, hM, -⟩ := (hS'.out.tab.setCell (p := ⟨w.heap.size + 1 + 1, 0, none⟩) (.inr (by show _ + 1 + 1 < _ + 4; omega)) (by simp) v).setCell (p := ⟨w.heap.size + 1 + 1 + 1, 0, none⟩) (.inr (by show _ + 1 + 1 + 1 < _ + 4; omega)) (by simp) (.bool true)
        have := hM.at spEnc_len ⟨0, 0⟩ (by rw [tabT_len]; unfold maxLen; omega) b.flows.length
        rw [tabT_len, tabT_all] at this
        exact this)
      clear hag hok
      go_wp2
      refine leaves_cons (f := 59) (args := #[.pointer (some ⟨w.heap.size + 1 + 1, 0, none⟩), .pointer (some ⟨w.heap.size + 1 + 1 + 1, 0, none⟩)]) (by simp) (by simp [go_sem]) ?_
      refine (seen_idle _ _ _).mono ?_
      rintro e u' w'' ⟨rfl, rfl, rfl⟩
      have n3 := World.cell?_setCell_same' wr ⟨w.heap.size + 1 + 1, 0, none⟩ (.slice (some ⟨w.heap.size + 4, 0, none⟩) b.flows.length b.flows.length) (by rw [r0]; rfl)
      have n4 := (World.cell?_setCell_far wr ⟨w.heap.size + 1 + 1, 0, none⟩ ⟨w.heap.size + 1 + 1 + 1, 0, none⟩ (.slice (some ⟨w.heap.size + 4, 0, none⟩) b.flows.length b.flows.length) (by simp)).trans t0
      have n1 := (World.cell?_setCell_far (wr.setCell ⟨w.heap.size + 1 + 1, 0, none⟩ (.slice (some ⟨w.heap.size + 4, 0, none⟩) b.flows.length b.flows.length)) ⟨w.heap.size + 1 + 1 + 1, 0, none⟩ ⟨w.heap.size + 1 + 1, 0, none⟩ (.bool true) (by simp)).trans n3
      have n2 := World.cell?_setCell_same' (wr.setCell ⟨w.heap.size + 1 + 1, 0, none⟩ (.slice (some ⟨w.heap.size + 4, 0, none⟩) b.flows.length b.flows.length)) ⟨w.heap.size + 1 + 1 + 1, 0, none⟩ (.bool true) (by rw [n4]; rfl)
      clear n3 n4
      simp [Leaves, settle, results, Tryz.results37, go_sem, n1, n2]
      exact (hres _).out
end Go.Proofs.YthbkcoijafehgaaGreat.L
