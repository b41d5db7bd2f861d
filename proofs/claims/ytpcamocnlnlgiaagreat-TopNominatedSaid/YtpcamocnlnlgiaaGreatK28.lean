/- Laws and walks: SP8. -/
import Derived.Test.YtpcamocnlnlgiaaGreatK27
set_option maxRecDepth 100000
set_option maxHeartbeats 16000000
set_option linter.unusedVariables false
set_option linter.unusedSimpArgs false
namespace Go.Proofs.YtpcamocnlnlgiaaGreat.S
open Go.RowKit Go.Sd
theorem enter_p1 : ∀ (args : Array Value) (w : World), (callFunc 65 args).run Tryz.prog w = .ok (.enter 65 args) w := fun _ _ => by kernel_rfl
theorem infoInts : (Tryz.prog.info? 41).map (fun i => (i.zero, i.size, i.bytes)) = some (some (.slice none 0 0), 1, 24) := by kernel_rfl
theorem madeCells_one (z : Value) (n : Nat) : madeCells #[z] n = Array.replicate n z := by
 apply Array.ext
 · simp [madeCells]
 · intro i h1 h2
   simp [madeCells, Nat.mod_one]
theorem run_make_lists (w : World) (n : Nat) (hn : n ≤ 1000) : (Instr.makeSlice 100 (.int .i64 (n : Int)) (.int .i64 (n : Int))).run Tryz.prog w =
    .ok (.slice (some ⟨w.heap.size, 0, none⟩) n n) (w.alloc (.cells (Array.replicate n (.slice none 0 0)) 41)) := by
 obtain ⟨i0, hi, hz0, hz1, hz2⟩ := info_parts infoInts
 have h := run_makeSlice (P := Tryz.prog) w 100 41 i0 (.slice none 0 0) Tryz.underlying100 hi hz0 .i64 .i64 (n : Int) (n : Int) (by omega) (by omega) (by rw [hz1]; omega) (by rw [hz2]; omega) (by omega)
 rw [hz1, Int.toNat_natCast, Nat.mul_one, show Value.cells (.slice none 0 0) = #[.slice none 0 0] from rfl, madeCells_one] at h
 exact h
theorem proof_num (lv mv : Value) (s : Sea.S) (noms : List Int) (wr : World) (B b bo bd j d f m : Nat) (bad : List Nat) (hl : LookAt wr lv mv s) (ok : Sea.Ok s) (hno : s.nomsB noms = true) (hd : d + 1 + j = s.days.length)
    (hf : (f : Int) ≤ s.space) (hT : TabAt B b bad wr (Sea.tbl s.days.length (s.vals noms) (j + 1) m)) (c0 : wr.cell? ⟨bo, 0, none⟩ = some (.slice (some ⟨b, 0, none⟩) (s.days.length + 1) (s.days.length + 1)))
    (c1 : wr.cell? ⟨bd, 0, none⟩ = some (.int .i64 d)) : ∀ u, u ∈ ordersOf s d f (Sea.at0 noms d) → ∀ X, Below wr.heap.size wr X →
     Calls Tryz.prog 65 (#[ordV lv d f (Sea.at0 noms d) u] ++ #[.pointer (some ⟨bo, 0, none⟩), .pointer (some ⟨bd, 0, none⟩)]) X fun e X' =>
      e = .returned (.int .i64 (withOf s d f (Sea.at0 noms d) (s.vals noms j) u)) ∧ Below X.heap.size X X' := by
 intro u hu X hX
 obtain ⟨vs, hM, -⟩ := hT
 have hsd := ok.ndays
 have hsp := ok.space
 have hlen := Sea.tbl_length s.days.length (s.vals noms) (j + 1) m
 have ho := order_in ok (by omega) hu
 have hat : Sea.lstAt (Sea.tbl s.days.length (s.vals noms) (j + 1) m) (d + 1) = s.vals noms j := by
  rw [Sea.tbl_at _ _ _ _ _ (by omega), if_pos (by omega), show s.days.length - (d + 1) = j by omega]
 have hrow := (hM.own (d + 1) (by rw [hlen]; omega)).at
 rw [hat] at hrow
 have hcell := (row_len hM (i := d + 1) (by rw [hlen]; omega)).1
 have hbd := vals_bd ok noms j (by omega) (f + Sea.at0 noms d + u).toNat
 have hnb := (noms_bd ok hno).2 d (by omega)
 exact progProof1 lv mv s d f (Sea.at0 noms d) u X bo bd (s.days.length + 1) _ _ (s.vals noms j) (hl.mono hX) (by omega) ok (by omega) hnb ⟨ho.1, ho.2.1⟩ ho.2.2.2.1 (by rw [Sea.S.vals_length]; omega)
  ⟨by have := hbd.1; unfold Sea.never; omega, hbd.2⟩ (kept_cell hX c0) (kept_cell hX c1) ⟨b, 0, _, rfl, by omega, by omega, by rw [Nat.zero_add]; exact kept_cell hX hcell⟩ (hrow.mono hX) (by omega)
theorem progProof (lv mv : Value) (s : Sea.S) (w : World) (nv : Value) (noms : List Int) (hl : LookAt w lv mv s) (ok : Sea.Ok s) (hn : IntsAt w nv noms) (hno : s.nomsB noms = true) :
    Calls Tryz.prog 31 #[lv, nv] w fun e w' => ∃ b vs cap, e = .returned (.slice (some ⟨b, 0, none⟩) (s.days.length + 1) cap) ∧ OwnMat w.heap.size b w' vs (s.proof noms) ∧ Below w.heap.size w w' := by
 have hl' := hl
 obtain ⟨lb, rv, dv, rfl, ⟨l0, l1, l2, l3, l4, l5, l6⟩, hlb, hr, ⟨da, dcap, rfl, hdm, hdk⟩⟩ := hl'
 have hsd := ok.ndays
 have hsp := ok.space
 have hmk := run_make_lists w (s.days.length + 1) (by omega)
 rw [Int.natCast_add, Int.natCast_one] at hmk
 clear hr hdk
 go_enter Tryz.func31, Tryz.ntmps31
 go_wp2
 have hM0 := OwnMat.made w.heap.size (s.days.length + 1) w (Nat.le_refl _)
 rw [← Sea.tbl_start s.days.length (s.vals noms)] at hM0
 have hB0 : Below w.heap.size w (w.alloc (.cells (Array.replicate (s.days.length + 1) (.slice none 0 0)) 41)) := (Below.refl _ _).alloc (Nat.le_refl _) _
 have hM1 := hM0.mono ((Below.refl _ _).alloc (Nat.le_refl _) (.cells #[.slice (some ⟨w.heap.size, 0, none⟩) (s.days.length + 1) (s.days.length + 1)] 100))
 have hB1 := hB0.alloc hB0.size (.cells #[.slice (some ⟨w.heap.size, 0, none⟩) (s.days.length + 1) (s.days.length + 1)] 100)
 have hbo := World.alloc_heap_new (w.alloc (.cells (Array.replicate (s.days.length + 1) (.slice none 0 0)) 41)) (.cells #[.slice (some ⟨w.heap.size, 0, none⟩) (s.days.length + 1) (s.days.length + 1)] 100)
 rw [World.size_alloc] at hbo
 generalize (w.alloc (.cells (Array.replicate (s.days.length + 1) (.slice none 0 0)) 41)).alloc (.cells #[.slice (some ⟨w.heap.size, 0, none⟩) (s.days.length + 1) (s.days.length + 1)] 100) = W at hM1 hB1 hbo ⊢
 clear hM0 hB0 hmk
 go_loopw [27] (fun i wr => ∃ f : Nat, (f : Int) ≤ s.space + 1 ∧ i = .int .i64 f ∧ Hid (∃ vs, OwnMat w.heap.size w.heap.size wr vs (Sea.tbl s.days.length (s.vals noms) 0 f) ∧ ∀ i, i ≤ s.days.length → (valAt vs i).ownBlock ≠ some (w.heap.size + 1)) ∧
  wr.heap[w.heap.size + 1]? = some (.cells #[.slice (some ⟨w.heap.size, 0, none⟩) (s.days.length + 1) (s.days.length + 1)] 100) ∧ Below w.heap.size w wr) (fun i _ => (s.space + 1 - intOf i).toNat)
 case atStart => exact ⟨0, by omega, rfl, ⟨_, hM1, fun i _ => by unfold valAt; by_cases h : i < s.days.length + 1 <;> simp [h, Value.ownBlock]⟩, hbo, hB1⟩
 case round =>
  obtain ⟨f, hf, rfl, hM, hbx, hB⟩ := hrel
  obtain ⟨zb, db, fb⟩ := row_cells hbx
  have x0 := db 0
  simp only [List.getElem?_toArray, List.getElem?_cons_zero] at x0
  have m2 := kept_cell hB l2
  have m3 := kept_cell hB l3
  have m5 := kept_cell hB l5
  by_cases hlt : (f : Int) ≤ s.space
  · cases he : Sea.inB f s.elo s.ehi
    · have hc := fun w1 : World => progIn f s.elo s.ehi w1
      rw [he] at hc
      go_wp2
      go_quiet ((go_at_call 39; exact Calls.quiet_of_same ((hc _).mono (by rintro e w' ⟨rfl, rfl⟩; exact ⟨rfl, rfl⟩))))
      go_wp2
      obtain ⟨vs, hM, hnb⟩ := hM.out
      have hMd : OwnMat w.heap.size w.heap.size (wr.drewN nq) vs (Sea.tbl s.days.length (s.vals noms) 0 f) := hM.mono (below_drewN (Below.refl _ _) _)
      have hBd : Below w.heap.size w (wr.drewN nq) := below_drewN hB _
      have hbxd : (wr.drewN nq).heap[w.heap.size + 1]? = some (.cells #[.slice (some ⟨w.heap.size, 0, none⟩) (s.days.length + 1) (s.days.length + 1)] 100) := ((below_drewN (Below.refl wr.heap.size wr) nq).block _ zb).trans hbx
      clear hM hbx hB zb db fb x0 m2 m3 m5
      generalize wr.drewN nq = X at *
      obtain ⟨zb, db, fb⟩ := row_cells hbxd
      have x0 := db 0
      have m5 := kept_cell hBd l5
      have hlen := Sea.tbl_length s.days.length (s.vals noms) 0 f
      have hvl : s.days.length < vs.length := by rw [hMd.len, hlen]; omega
      have x1 : X.cell? ⟨w.heap.size, s.days.length, none⟩ = some (valAt vs s.days.length) := by
       rw [(row_cells hMd.heap).2.1]; simp [valAt, hvl]
      have x2 : X.frozen? ⟨w.heap.size, s.days.length, none⟩ = false := (row_cells hMd.heap).2.2 _
      have hown := hMd.own s.days.length (by rw [hlen]; omega)
      have hat0 : Sea.lstAt (Sea.tbl s.days.length (s.vals noms) 0 f) s.days.length = (s.vals noms 0).take f := by rw [Sea.tbl_at _ _ _ _ _ (Nat.le_refl _), if_neg (by omega), if_pos (by omega)]
      have hne := hMd.ne s.days.length (by rw [hlen]; omega)
      simp only [List.getElem?_toArray, List.getElem?_cons_zero] at x0
      obtain ⟨i0, hi0, hz0, hz1, hz2⟩ := info_parts infoInt
      generalize hv0 : valAt vs s.days.length = v0 at *
      have hid0 : (0 : Int) ≤ (s.days.length : Int) := Int.natCast_nonneg _
      have hid1 : (s.days.length : Int) < (s.days.length : Int) + 1 := by omega
      have kx : ∀ (o : Obj) (b off : Nat) (v : Value), X.cell? ⟨b, off, none⟩ = some v → (X.alloc o).drew.cell? ⟨b, off, none⟩ = some v := fun o b off v h => kept_cell (((Below.refl _ _).alloc (Nat.le_refl _) o).drew) h
      have fx : ∀ (o : Obj), (X.alloc o).drew.frozen? ⟨w.heap.size, s.days.length, none⟩ = false := fun o => ((((Below.refl X.heap.size X).alloc (Nat.le_refl _) o).drew).frozen (p := ⟨w.heap.size, s.days.length, none⟩) (by simp; omega)).trans x2
      have ab : v0.ownBlock ≠ some (w.heap.size + 1) := by have := hnb s.days.length (Nat.le_refl _); rwa [hv0] at this
      have al : v0.ownBlock ≠ some lb := fun e => by have := hown.lt _ e; omega
      have hl1 : (Sea.lstAt (Sea.tbl s.days.length (s.vals noms) 0 f) s.days.length).length + 1 ≤ maxLen := by rw [hat0, List.length_take]; unfold maxLen; omega
      have hl2 : ((Sea.lstAt (Sea.tbl s.days.length (s.vals noms) 0 f) s.days.length).length + 1) * 8 ≤ 140737488355328 := by rw [hat0, List.length_take]; omega
      refine wp_region_noPanic ?_
      refine wp_region_held_drew (S := (fun w' => w'.cell? ⟨w.heap.size + 1, 0, none⟩ = some (.slice (some ⟨w.heap.size, 0, none⟩) (s.days.length + 1) (s.days.length + 1)) ∧ w'.cell? ⟨lb, 5, none⟩ = some (.slice da s.days.length dcap))) (by kernel_rfl) ?_ (fun hHeld => ?_)
      · first | (first
         | (go_keep; done)
         | exact ⟨kx _ _ _ _ x0, kx _ _ _ _ m5⟩
         | (go_split_ands
            refine ⟨?_, ?_⟩
            · (rw [hgrow.cell_far _ (by simp; omega) (Ne.symm ab)]; assumption)
            · (rw [hgrow.cell_far _ (by simp; omega) (Ne.symm al)]; assumption))
         | exact ⟨(World.cell?_setCell_far _ _ _ _ (by show w.heap.size ≠ w.heap.size + 1; omega)).trans hcb, (World.cell?_setCell_far _ _ _ _ (by show w.heap.size ≠ lb; omega)).trans hcl⟩) | (dsimp only; (first
         | (go_keep; done)
         | exact ⟨kx _ _ _ _ x0, kx _ _ _ _ m5⟩
         | (go_split_ands
            refine ⟨?_, ?_⟩
            · (rw [hgrow.cell_far _ (by simp; omega) (Ne.symm ab)]; assumption)
            · (rw [hgrow.cell_far _ (by simp; omega) (Ne.symm al)]; assumption))
         | exact ⟨(World.cell?_setCell_far _ _ _ _ (by show w.heap.size ≠ w.heap.size + 1; omega)).trans hcb, (World.cell?_setCell_far _ _ _ _ (by show w.heap.size ≠ lb; omega)).trans hcl⟩))
      refine wpAnyH_take (i := 0) (v := ?_) rfl (by kernel_rfl) (by kernel_rfl) (by kernel_rfl) (fun _ _ _ h => h) (Or.inl ⟨by rfl, ?_⟩) (by assumption) ?_
      rotate_left
      · intro w hSw; (try dsimp only at hSw); go_simp; (try with_reducible rfl)
      try simp only [Act.put, List.setIfInBounds_toArray, List.set_cons_zero, List.set_cons_succ]
      refine wpAnyH_take (i := 1) (v := ?_) rfl (by kernel_rfl) (by kernel_rfl) (by kernel_rfl) (fun _ _ _ h => h) (Or.inl ⟨by rfl, ?_⟩) (by assumption) ?_
      rotate_left
      · intro w hSw; (try dsimp only at hSw); go_simp; (try with_reducible rfl)
      try simp only [Act.put, List.setIfInBounds_toArray, List.set_cons_zero, List.set_cons_succ]
      refine wpAnyH_take (i := 2) (v := ?_) rfl (by kernel_rfl) (by kernel_rfl) (by kernel_rfl) (fun _ _ _ h => h) (Or.inl ⟨by rfl, ?_⟩) (by assumption) ?_
      rotate_left
      · intro w hSw; (try dsimp only at hSw); go_simp; (try with_reducible rfl)
      try simp only [Act.put, List.setIfInBounds_toArray, List.set_cons_zero, List.set_cons_succ]
      refine wpAnyH_take (i := 3) (v := ?_) rfl (by kernel_rfl) (by kernel_rfl) (by kernel_rfl) (fun _ _ _ h => h) (Or.inl ⟨by rfl, ?_⟩) (by assumption) ?_
      rotate_left
      · intro w hSw; (try dsimp only at hSw); go_simp; (try with_reducible rfl)
      try simp only [Act.put, List.setIfInBounds_toArray, List.set_cons_zero, List.set_cons_succ]
      refine wpAnyH_take (i := 4) (v := ?_) rfl (by kernel_rfl) (by kernel_rfl) (by kernel_rfl) (fun _ _ _ h => h) (Or.inl ⟨by rfl, ?_⟩) (by assumption) ?_
      rotate_left
      · intro w hSw; (try dsimp only at hSw); go_simp; (try with_reducible rfl)
      try simp only [Act.put, List.setIfInBounds_toArray, List.set_cons_zero, List.set_cons_succ]
      refine wpAnyH_take (i := 5) (v := ?_) rfl (by kernel_rfl) (by kernel_rfl) (by kernel_rfl) (fun _ _ _ h => h) (Or.inl ⟨by rfl, ?_⟩) (by assumption) ?_
      rotate_left
      · intro w hSw; (try dsimp only at hSw); go_simp; (try with_reducible rfl)
      try simp only [Act.put, List.setIfInBounds_toArray, List.set_cons_zero, List.set_cons_succ]
      refine wpAnyH_take (i := 6) (v := ?_) rfl (by kernel_rfl) (by kernel_rfl) (by kernel_rfl) (fun _ _ _ h => h) (Or.inl ⟨by rfl, ?_⟩) (by assumption) ?_
      rotate_left
      · intro w hSw; (try dsimp only at hSw); go_simp; (try with_reducible rfl)
      try simp only [Act.put, List.setIfInBounds_toArray, List.set_cons_zero, List.set_cons_succ]
      refine wpAnyH_take (i := 7) (v := ?_) rfl (by kernel_rfl) (by kernel_rfl) (by kernel_rfl) (fun _ _ _ h => h) (Or.inl ⟨by rfl, ?_⟩) (by assumption) ?_
      rotate_left
      · intro w hSw; (try dsimp only at hSw); go_simp; (try with_reducible rfl)
      try simp only [Act.put, List.setIfInBounds_toArray, List.set_cons_zero, List.set_cons_succ]
      refine wpAnyH_take (i := 8) (v := ?_) rfl (by kernel_rfl) (by kernel_rfl) (by kernel_rfl) (fun _ _ _ h => h) (Or.inl ⟨by rfl, ?_⟩) (by assumption) ?_
      rotate_left
      · intro w hSw; (try dsimp only at hSw); go_simp; (try with_reducible rfl)
      try simp only [Act.put, List.setIfInBounds_toArray, List.set_cons_zero, List.set_cons_succ]
      refine wpAnyH_take (i := 9) (v := ?_) rfl (by kernel_rfl) (by kernel_rfl) (by kernel_rfl) (fun _ _ _ h => h) (Or.inl ⟨by rfl, ?_⟩) (by assumption) ?_
      rotate_left
      · intro w hSw; (try dsimp only at hSw); go_simp; (try with_reducible rfl)
      try simp only [Act.put, List.setIfInBounds_toArray, List.set_cons_zero, List.set_cons_succ]
      refine wpAnyH_take (i := 10) (v := ?_) rfl (by kernel_rfl) (by kernel_rfl) (by kernel_rfl) (fun _ _ _ h => h) (Or.inl ⟨by rfl, ?_⟩) (by assumption) ?_
      rotate_left
      · intro w hSw; (try dsimp only at hSw); go_simp; (try with_reducible rfl)
      try simp only [Act.put, List.setIfInBounds_toArray, List.set_cons_zero, List.set_cons_succ]
      refine wpAnyH_take (i := 11) (v := ?_) rfl (by kernel_rfl) (by kernel_rfl) (by kernel_rfl) (fun _ _ _ h => h) (Or.inl ⟨by rfl, ?_⟩) (by assumption) ?_
      rotate_left
      · intro w hSw; (try dsimp only at hSw); go_simp; (try with_reducible rfl)
      try simp only [Act.put, List.setIfInBounds_toArray, List.set_cons_zero, List.set_cons_succ]
      refine wpAnyH_take (i := 12) (v := ?_) rfl (by kernel_rfl) (by kernel_rfl) (by kernel_rfl) (fun _ _ _ h => h) (Or.inl ⟨by rfl, ?_⟩) (by assumption) ?_
      rotate_left
      · intro w hSw; (try dsimp only at hSw); go_simp; (try with_reducible rfl)
      try simp only [Act.put, List.setIfInBounds_toArray, List.set_cons_zero, List.set_cons_succ]
      refine wpAnyH_take (i := 13) (v := ?_) rfl (by kernel_rfl) (by kernel_rfl) (by kernel_rfl) (fun _ _ _ h => h) (Or.inl ⟨by rfl, ?_⟩) (by assumption) ?_
      rotate_left
      · intro w hSw; (try dsimp only at hSw); go_simp; (try with_reducible rfl)
      try simp only [Act.put, List.setIfInBounds_toArray, List.set_cons_zero, List.set_cons_succ]
      refine wpAnyH_take (i := 14) (v := ?_) rfl (by kernel_rfl) (by kernel_rfl) (by kernel_rfl) (fun _ _ _ h => h) (Or.inl ⟨by rfl, ?_⟩) (by assumption) ?_
      rotate_left
      · intro w hSw; (try dsimp only at hSw); go_simp; (try with_reducible rfl)
      try simp only [Act.put, List.setIfInBounds_toArray, List.set_cons_zero, List.set_cons_succ]
      refine wpAnyH_take (i := 16) (v := ?_) rfl (by kernel_rfl) (by kernel_rfl) (by kernel_rfl) (fun _ _ _ h => h) (Or.inl ⟨by rfl, ?_⟩) (by assumption) ?_
      rotate_left
      · intro w hSw; (try dsimp only at hSw); go_simp; (try with_reducible rfl)
      try simp only [Act.put, List.setIfInBounds_toArray, List.set_cons_zero, List.set_cons_succ]
      refine wpAnyH_ready (rs := [15, 17]) (by kernel_rfl) (by simp) ?_
      refine AllReadyH.cons rfl (fun K hK => ?wayA9246) (AllReadyH.cons rfl (fun K hK => ?wayB9246) AllReadyH.nil)
      case' wayA9246 =>
       go_simp
       refine hK.out _ _ ?_ (fun hNow => ?_)
       · first | (first
         | (go_keep; done)
         | exact ⟨kx _ _ _ _ x0, kx _ _ _ _ m5⟩
         | (go_split_ands
            refine ⟨?_, ?_⟩
            · (rw [hgrow.cell_far _ (by simp; omega) (Ne.symm ab)]; assumption)
            · (rw [hgrow.cell_far _ (by simp; omega) (Ne.symm al)]; assumption))
         | exact ⟨(World.cell?_setCell_far _ _ _ _ (by show w.heap.size ≠ w.heap.size + 1; omega)).trans hcb, (World.cell?_setCell_far _ _ _ _ (by show w.heap.size ≠ lb; omega)).trans hcl⟩) | (dsimp only; (first
         | (go_keep; done)
         | exact ⟨kx _ _ _ _ x0, kx _ _ _ _ m5⟩
         | (go_split_ands
            refine ⟨?_, ?_⟩
            · (rw [hgrow.cell_far _ (by simp; omega) (Ne.symm ab)]; assumption)
            · (rw [hgrow.cell_far _ (by simp; omega) (Ne.symm al)]; assumption))
         | exact ⟨(World.cell?_setCell_far _ _ _ _ (by show w.heap.size ≠ w.heap.size + 1; omega)).trans hcb, (World.cell?_setCell_far _ _ _ _ (by show w.heap.size ≠ lb; omega)).trans hcl⟩))
       clear hK K hHeld
       have hHeld := hNow
       clear hNow
       try simp only [Act.put, List.setIfInBounds_toArray, List.set_cons_zero, List.set_cons_succ]
       refine wpAnyH_ready (rs := [17]) (by kernel_rfl) (by simp) ?_
       refine AllReadyH.cons rfl (fun K hK => ?_) AllReadyH.nil
       go_simp
       refine hK.out _ _ ?_ (fun hNow => ?_)
       · first | (first
         | (go_keep; done)
         | exact ⟨kx _ _ _ _ x0, kx _ _ _ _ m5⟩
         | (go_split_ands
            refine ⟨?_, ?_⟩
            · (rw [hgrow.cell_far _ (by simp; omega) (Ne.symm ab)]; assumption)
            · (rw [hgrow.cell_far _ (by simp; omega) (Ne.symm al)]; assumption))
         | exact ⟨(World.cell?_setCell_far _ _ _ _ (by show w.heap.size ≠ w.heap.size + 1; omega)).trans hcb, (World.cell?_setCell_far _ _ _ _ (by show w.heap.size ≠ lb; omega)).trans hcl⟩) | (dsimp only; (first
         | (go_keep; done)
         | exact ⟨kx _ _ _ _ x0, kx _ _ _ _ m5⟩
         | (go_split_ands
            refine ⟨?_, ?_⟩
            · (rw [hgrow.cell_far _ (by simp; omega) (Ne.symm ab)]; assumption)
            · (rw [hgrow.cell_far _ (by simp; omega) (Ne.symm al)]; assumption))
         | exact ⟨(World.cell?_setCell_far _ _ _ _ (by show w.heap.size ≠ w.heap.size + 1; omega)).trans hcb, (World.cell?_setCell_far _ _ _ _ (by show w.heap.size ≠ lb; omega)).trans hcl⟩))
       clear hK K hHeld
       have hHeld := hNow
       clear hNow
       try simp only [Act.put, List.setIfInBounds_toArray, List.set_cons_zero, List.set_cons_succ]
       refine wpAnyH_ready (rs := [18]) (by kernel_rfl) (by simp) ?_
       refine AllReadyH.cons rfl (fun K hK => ?_) AllReadyH.nil
       ((refine step_append_lies _ (by rfl) _ _ _ (by rfl) w.heap.size 3 i0 _ 1 8 Tryz.underlying41 hi0 hz0 hz1 hz2 rfl (by decide) v0 _ _ (by rfl) ((World.ownsRow.alloc hown _).drew) ⟨X.heap.size, 0, none⟩ 1 1 [.int .i64 1000000000000000] (by rfl) (by rfl) (World.news_of_block (cs := #[.int .i64 1000000000000000]) (t := 3) (fr := (0, 0)) (heap_alloc_new X _)) (by simp [Value.oneCell']) (by decide) hl1 hl2 (by simp; omega) (X.heap.size + 1) (by simp) ?_; intro gg gcap w1 hown1 hgrow hat hglt; have hcb := (hgrow.cell_far _ (by simp; omega) (Ne.symm ab)).trans (kx _ _ _ _ x0); have hcl := (hgrow.cell_far _ (by simp; omega) (Ne.symm al)).trans (kx _ _ _ _ m5); have hcz : w1.cell? ⟨w.heap.size, s.days.length, none⟩ = some v0 := (hgrow.cell_far _ (by simp; omega) (Ne.symm hne)).trans (kx _ _ _ _ x1); have hfz : w1.frozen? ⟨w.heap.size, s.days.length, none⟩ = false := (hgrow.frozen_far _ (by simp; omega) (Ne.symm hne)).trans (fx _)))
       refine hK.out _ _ ?_ (fun hNow => ?_)
       · first | (first
         | (go_keep; done)
         | exact ⟨kx _ _ _ _ x0, kx _ _ _ _ m5⟩
         | (go_split_ands
            refine ⟨?_, ?_⟩
            · (rw [hgrow.cell_far _ (by simp; omega) (Ne.symm ab)]; assumption)
            · (rw [hgrow.cell_far _ (by simp; omega) (Ne.symm al)]; assumption))
         | exact ⟨(World.cell?_setCell_far _ _ _ _ (by show w.heap.size ≠ w.heap.size + 1; omega)).trans hcb, (World.cell?_setCell_far _ _ _ _ (by show w.heap.size ≠ lb; omega)).trans hcl⟩) | (dsimp only; (first
         | (go_keep; done)
         | exact ⟨kx _ _ _ _ x0, kx _ _ _ _ m5⟩
         | (go_split_ands
            refine ⟨?_, ?_⟩
            · (rw [hgrow.cell_far _ (by simp; omega) (Ne.symm ab)]; assumption)
            · (rw [hgrow.cell_far _ (by simp; omega) (Ne.symm al)]; assumption))
         | exact ⟨(World.cell?_setCell_far _ _ _ _ (by show w.heap.size ≠ w.heap.size + 1; omega)).trans hcb, (World.cell?_setCell_far _ _ _ _ (by show w.heap.size ≠ lb; omega)).trans hcl⟩))
       clear hK K hHeld
       have hHeld := hNow
       clear hNow
       try simp only [Act.put, List.setIfInBounds_toArray, List.set_cons_zero, List.set_cons_succ]
       refine wpAnyH_take (i := 19) (v := ?_) rfl (by kernel_rfl) (by kernel_rfl) (by kernel_rfl) (fun _ _ _ h => h) (Or.inl ⟨by rfl, ?_⟩) (by assumption) ?_
       rotate_left
       · intro w hSw; (try dsimp only at hSw); go_simp; (try with_reducible rfl)
       try simp only [Act.put, List.setIfInBounds_toArray, List.set_cons_zero, List.set_cons_succ]
       refine wpAnyH_ready (rs := [20]) (by kernel_rfl) (by simp) ?_
       refine AllReadyH.cons rfl (fun K hK => ?_) AllReadyH.nil
       go_simp
       refine hK.out _ _ ?_ (fun hNow => ?_)
       · first | (first
         | (go_keep; done)
         | exact ⟨kx _ _ _ _ x0, kx _ _ _ _ m5⟩
         | (go_split_ands
            refine ⟨?_, ?_⟩
            · (rw [hgrow.cell_far _ (by simp; omega) (Ne.symm ab)]; assumption)
            · (rw [hgrow.cell_far _ (by simp; omega) (Ne.symm al)]; assumption))
         | exact ⟨(World.cell?_setCell_far _ _ _ _ (by show w.heap.size ≠ w.heap.size + 1; omega)).trans hcb, (World.cell?_setCell_far _ _ _ _ (by show w.heap.size ≠ lb; omega)).trans hcl⟩) | (dsimp only; (first
         | (go_keep; done)
         | exact ⟨kx _ _ _ _ x0, kx _ _ _ _ m5⟩
         | (go_split_ands
            refine ⟨?_, ?_⟩
            · (rw [hgrow.cell_far _ (by simp; omega) (Ne.symm ab)]; assumption)
            · (rw [hgrow.cell_far _ (by simp; omega) (Ne.symm al)]; assumption))
         | exact ⟨(World.cell?_setCell_far _ _ _ _ (by show w.heap.size ≠ w.heap.size + 1; omega)).trans hcb, (World.cell?_setCell_far _ _ _ _ (by show w.heap.size ≠ lb; omega)).trans hcl⟩))
       clear hK K hHeld
       have hHeld := hNow
       clear hNow
       try simp only [Act.put, List.setIfInBounds_toArray, List.set_cons_zero, List.set_cons_succ]
       refine wpAnyH_done (by kernel_rfl) ?_ _
       refine NoPanic.normal ?_
      case' wayB9246 =>
       go_simp
       refine hK.out _ _ ?_ (fun hNow => ?_)
       · first | (first
         | (go_keep; done)
         | exact ⟨kx _ _ _ _ x0, kx _ _ _ _ m5⟩
         | (go_split_ands
            refine ⟨?_, ?_⟩
            · (rw [hgrow.cell_far _ (by simp; omega) (Ne.symm ab)]; assumption)
            · (rw [hgrow.cell_far _ (by simp; omega) (Ne.symm al)]; assumption))
         | exact ⟨(World.cell?_setCell_far _ _ _ _ (by show w.heap.size ≠ w.heap.size + 1; omega)).trans hcb, (World.cell?_setCell_far _ _ _ _ (by show w.heap.size ≠ lb; omega)).trans hcl⟩) | (dsimp only; (first
         | (go_keep; done)
         | exact ⟨kx _ _ _ _ x0, kx _ _ _ _ m5⟩
         | (go_split_ands
            refine ⟨?_, ?_⟩
            · (rw [hgrow.cell_far _ (by simp; omega) (Ne.symm ab)]; assumption)
            · (rw [hgrow.cell_far _ (by simp; omega) (Ne.symm al)]; assumption))
         | exact ⟨(World.cell?_setCell_far _ _ _ _ (by show w.heap.size ≠ w.heap.size + 1; omega)).trans hcb, (World.cell?_setCell_far _ _ _ _ (by show w.heap.size ≠ lb; omega)).trans hcl⟩))
       clear hK K hHeld
       have hHeld := hNow
       clear hNow
       try simp only [Act.put, List.setIfInBounds_toArray, List.set_cons_zero, List.set_cons_succ]
       refine wpAnyH_ready (rs := [15]) (by kernel_rfl) (by simp) ?_
       refine AllReadyH.cons rfl (fun K hK => ?_) AllReadyH.nil
       go_simp
       refine hK.out _ _ ?_ (fun hNow => ?_)
       · first | (first
         | (go_keep; done)
         | exact ⟨kx _ _ _ _ x0, kx _ _ _ _ m5⟩
         | (go_split_ands
            refine ⟨?_, ?_⟩
            · (rw [hgrow.cell_far _ (by simp; omega) (Ne.symm ab)]; assumption)
            · (rw [hgrow.cell_far _ (by simp; omega) (Ne.symm al)]; assumption))
         | exact ⟨(World.cell?_setCell_far _ _ _ _ (by show w.heap.size ≠ w.heap.size + 1; omega)).trans hcb, (World.cell?_setCell_far _ _ _ _ (by show w.heap.size ≠ lb; omega)).trans hcl⟩) | (dsimp only; (first
         | (go_keep; done)
         | exact ⟨kx _ _ _ _ x0, kx _ _ _ _ m5⟩
         | (go_split_ands
            refine ⟨?_, ?_⟩
            · (rw [hgrow.cell_far _ (by simp; omega) (Ne.symm ab)]; assumption)
            · (rw [hgrow.cell_far _ (by simp; omega) (Ne.symm al)]; assumption))
         | exact ⟨(World.cell?_setCell_far _ _ _ _ (by show w.heap.size ≠ w.heap.size + 1; omega)).trans hcb, (World.cell?_setCell_far _ _ _ _ (by show w.heap.size ≠ lb; omega)).trans hcl⟩))
       clear hK K hHeld
       have hHeld := hNow
       clear hNow
       try simp only [Act.put, List.setIfInBounds_toArray, List.set_cons_zero, List.set_cons_succ]
       refine wpAnyH_ready (rs := [18]) (by kernel_rfl) (by simp) ?_
       refine AllReadyH.cons rfl (fun K hK => ?_) AllReadyH.nil
       ((refine step_append_lies _ (by rfl) _ _ _ (by rfl) w.heap.size 3 i0 _ 1 8 Tryz.underlying41 hi0 hz0 hz1 hz2 rfl (by decide) v0 _ _ (by rfl) ((World.ownsRow.alloc hown _).drew) ⟨X.heap.size, 0, none⟩ 1 1 [.int .i64 1000000000000000] (by rfl) (by rfl) (World.news_of_block (cs := #[.int .i64 1000000000000000]) (t := 3) (fr := (0, 0)) (heap_alloc_new X _)) (by simp [Value.oneCell']) (by decide) hl1 hl2 (by simp; omega) (X.heap.size + 1) (by simp) ?_; intro gg gcap w1 hown1 hgrow hat hglt; have hcb := (hgrow.cell_far _ (by simp; omega) (Ne.symm ab)).trans (kx _ _ _ _ x0); have hcl := (hgrow.cell_far _ (by simp; omega) (Ne.symm al)).trans (kx _ _ _ _ m5); have hcz : w1.cell? ⟨w.heap.size, s.days.length, none⟩ = some v0 := (hgrow.cell_far _ (by simp; omega) (Ne.symm hne)).trans (kx _ _ _ _ x1); have hfz : w1.frozen? ⟨w.heap.size, s.days.length, none⟩ = false := (hgrow.frozen_far _ (by simp; omega) (Ne.symm hne)).trans (fx _)))
       refine hK.out _ _ ?_ (fun hNow => ?_)
       · first | (first
         | (go_keep; done)
         | exact ⟨kx _ _ _ _ x0, kx _ _ _ _ m5⟩
         | (go_split_ands
            refine ⟨?_, ?_⟩
            · (rw [hgrow.cell_far _ (by simp; omega) (Ne.symm ab)]; assumption)
            · (rw [hgrow.cell_far _ (by simp; omega) (Ne.symm al)]; assumption))
         | exact ⟨(World.cell?_setCell_far _ _ _ _ (by show w.heap.size ≠ w.heap.size + 1; omega)).trans hcb, (World.cell?_setCell_far _ _ _ _ (by show w.heap.size ≠ lb; omega)).trans hcl⟩) | (dsimp only; (first
         | (go_keep; done)
         | exact ⟨kx _ _ _ _ x0, kx _ _ _ _ m5⟩
         | (go_split_ands
            refine ⟨?_, ?_⟩
            · (rw [hgrow.cell_far _ (by simp; omega) (Ne.symm ab)]; assumption)
            · (rw [hgrow.cell_far _ (by simp; omega) (Ne.symm al)]; assumption))
         | exact ⟨(World.cell?_setCell_far _ _ _ _ (by show w.heap.size ≠ w.heap.size + 1; omega)).trans hcb, (World.cell?_setCell_far _ _ _ _ (by show w.heap.size ≠ lb; omega)).trans hcl⟩))
       clear hK K hHeld
       have hHeld := hNow
       clear hNow
       try simp only [Act.put, List.setIfInBounds_toArray, List.set_cons_zero, List.set_cons_succ]
       refine wpAnyH_take (i := 19) (v := ?_) rfl (by kernel_rfl) (by kernel_rfl) (by kernel_rfl) (fun _ _ _ h => h) (Or.inl ⟨by rfl, ?_⟩) (by assumption) ?_
       rotate_left
       · intro w hSw; (try dsimp only at hSw); go_simp; (try with_reducible rfl)
       try simp only [Act.put, List.setIfInBounds_toArray, List.set_cons_zero, List.set_cons_succ]
       refine wpAnyH_ready (rs := [20]) (by kernel_rfl) (by simp) ?_
       refine AllReadyH.cons rfl (fun K hK => ?_) AllReadyH.nil
       go_simp
       refine hK.out _ _ ?_ (fun hNow => ?_)
       · first | (first
         | (go_keep; done)
         | exact ⟨kx _ _ _ _ x0, kx _ _ _ _ m5⟩
         | (go_split_ands
            refine ⟨?_, ?_⟩
            · (rw [hgrow.cell_far _ (by simp; omega) (Ne.symm ab)]; assumption)
            · (rw [hgrow.cell_far _ (by simp; omega) (Ne.symm al)]; assumption))
         | exact ⟨(World.cell?_setCell_far _ _ _ _ (by show w.heap.size ≠ w.heap.size + 1; omega)).trans hcb, (World.cell?_setCell_far _ _ _ _ (by show w.heap.size ≠ lb; omega)).trans hcl⟩) | (dsimp only; (first
         | (go_keep; done)
         | exact ⟨kx _ _ _ _ x0, kx _ _ _ _ m5⟩
         | (go_split_ands
            refine ⟨?_, ?_⟩
            · (rw [hgrow.cell_far _ (by simp; omega) (Ne.symm ab)]; assumption)
            · (rw [hgrow.cell_far _ (by simp; omega) (Ne.symm al)]; assumption))
         | exact ⟨(World.cell?_setCell_far _ _ _ _ (by show w.heap.size ≠ w.heap.size + 1; omega)).trans hcb, (World.cell?_setCell_far _ _ _ _ (by show w.heap.size ≠ lb; omega)).trans hcl⟩))
       clear hK K hHeld
       have hHeld := hNow
       clear hNow
       try simp only [Act.put, List.setIfInBounds_toArray, List.set_cons_zero, List.set_cons_succ]
       refine wpAnyH_done (by kernel_rfl) ?_ _
       refine NoPanic.normal ?_
      all_goals
       go_wp2
       have hgX : X.grownBy w1 v0.ownBlock := grownBy_trans (World.grownBy_alloc X _ _) ⟨hgrow.os, hgrow.tape, hgrow.output, hgrow.size, hgrow.block⟩
       have hmore := OwnMat.more (y := 1000000000000000) (v' := .slice (some ⟨gg, 0, none⟩) ((Sea.lstAt (Sea.tbl s.days.length (s.vals noms) 0 f) s.days.length).length + 1) gcap) hMd (i := s.days.length) (by rw [hlen]; omega) (by rw [hv0]; exact hgX) (own_more (y := 1000000000000000) hown1) (by rw [hv0]; rcases hat with e | e; exact .inl e.symm; exact .inr ⟨gg, rfl, by omega⟩)
       have ht := Sea.tbl_more s.days.length (s.vals noms) 0 f 1000000000000000 (by omega) (by show s.last[f]? = _; unfold Sea.S.last; rw [List.getElem?_map, List.getElem?_range (by omega)]; show some (s.lastAt f) = _; unfold Sea.S.lastAt; rw [he]; rfl)
       rw [Nat.sub_zero] at ht
       rw [ht] at hmore
       have hBn : Below w.heap.size w (w1.setCell ⟨w.heap.size, s.days.length, none⟩ (.slice (some ⟨gg, 0, none⟩) ((Sea.lstAt (Sea.tbl s.days.length (s.vals noms) 0 f) s.days.length).length + 1) gcap)) :=
        (hBd.grown hgX hBd.size (fun k e => (hown.lt k e).1)).setCell (p := ⟨w.heap.size, s.days.length, none⟩) (Nat.le_refl _) _
       have hbn : (w1.setCell ⟨w.heap.size, s.days.length, none⟩ (.slice (some ⟨gg, 0, none⟩) ((Sea.lstAt (Sea.tbl s.days.length (s.vals noms) 0 f) s.days.length).length + 1) gcap)).heap[w.heap.size + 1]? = _ :=
        (Below.heap_setCell _ _ _ _ (by show w.heap.size + 1 ≠ w.heap.size; omega)).trans ((hgX.block _ zb (Ne.symm ab)).trans hbxd)
       simp only [hat0, List.length_take] at hmore hBn hbn
       refine ⟨⟨f + 1, by omega, by go_num, ⟨_, hmore, ?_⟩, hbn, hBn⟩, by simp [intOf]; omega⟩
       intro i hi
       rw [valAt_set hvl]
       by_cases hin : i = s.days.length
       · rw [if_pos hin]
         show some gg ≠ _
         rcases hat with e | e
         · rw [← e]; exact ab
         · intro h; cases h; omega
       · rw [if_neg hin]; exact hnb i hi
    · have hc := fun w1 : World => progIn f s.elo s.ehi w1
      rw [he] at hc
      go_wp2
      go_quiet ((go_at_call 39; exact Calls.quiet_of_same ((hc _).mono (by rintro e w' ⟨rfl, rfl⟩; exact ⟨rfl, rfl⟩))))
      go_wp2
      obtain ⟨vs, hM, hnb⟩ := hM.out
      have hMd : OwnMat w.heap.size w.heap.size (wr.drewN nq) vs (Sea.tbl s.days.length (s.vals noms) 0 f) := hM.mono (below_drewN (Below.refl _ _) _)
      have hBd : Below w.heap.size w (wr.drewN nq) := below_drewN hB _
      have hbxd : (wr.drewN nq).heap[w.heap.size + 1]? = some (.cells #[.slice (some ⟨w.heap.size, 0, none⟩) (s.days.length + 1) (s.days.length + 1)] 100) := ((below_drewN (Below.refl wr.heap.size wr) nq).block _ zb).trans hbx
      clear hM hbx hB zb db fb x0 m2 m3 m5
      generalize wr.drewN nq = X at *
      obtain ⟨zb, db, fb⟩ := row_cells hbxd
      have x0 := db 0
      have m5 := kept_cell hBd l5
      have hlen := Sea.tbl_length s.days.length (s.vals noms) 0 f
      have hvl : s.days.length < vs.length := by rw [hMd.len, hlen]; omega
      have x1 : X.cell? ⟨w.heap.size, s.days.length, none⟩ = some (valAt vs s.days.length) := by
       rw [(row_cells hMd.heap).2.1]; simp [valAt, hvl]
      have x2 : X.frozen? ⟨w.heap.size, s.days.length, none⟩ = false := (row_cells hMd.heap).2.2 _
      have hown := hMd.own s.days.length (by rw [hlen]; omega)
      have hat0 : Sea.lstAt (Sea.tbl s.days.length (s.vals noms) 0 f) s.days.length = (s.vals noms 0).take f := by rw [Sea.tbl_at _ _ _ _ _ (Nat.le_refl _), if_neg (by omega), if_pos (by omega)]
      have hne := hMd.ne s.days.length (by rw [hlen]; omega)
      simp only [List.getElem?_toArray, List.getElem?_cons_zero] at x0
      obtain ⟨i0, hi0, hz0, hz1, hz2⟩ := info_parts infoInt
      generalize hv0 : valAt vs s.days.length = v0 at *
      have hid0 : (0 : Int) ≤ (s.days.length : Int) := Int.natCast_nonneg _
      have hid1 : (s.days.length : Int) < (s.days.length : Int) + 1 := by omega
      have kx : ∀ (o : Obj) (b off : Nat) (v : Value), X.cell? ⟨b, off, none⟩ = some v → (X.alloc o).drew.cell? ⟨b, off, none⟩ = some v := fun o b off v h => kept_cell (((Below.refl _ _).alloc (Nat.le_refl _) o).drew) h
      have fx : ∀ (o : Obj), (X.alloc o).drew.frozen? ⟨w.heap.size, s.days.length, none⟩ = false := fun o => ((((Below.refl X.heap.size X).alloc (Nat.le_refl _) o).drew).frozen (p := ⟨w.heap.size, s.days.length, none⟩) (by simp; omega)).trans x2
      have ab : v0.ownBlock ≠ some (w.heap.size + 1) := by have := hnb s.days.length (Nat.le_refl _); rwa [hv0] at this
      have al : v0.ownBlock ≠ some lb := fun e => by have := hown.lt _ e; omega
      have hl1 : (Sea.lstAt (Sea.tbl s.days.length (s.vals noms) 0 f) s.days.length).length + 1 ≤ maxLen := by rw [hat0, List.length_take]; unfold maxLen; omega
      have hl2 : ((Sea.lstAt (Sea.tbl s.days.length (s.vals noms) 0 f) s.days.length).length + 1) * 8 ≤ 140737488355328 := by rw [hat0, List.length_take]; omega
      refine wp_region_noPanic ?_
      refine wp_region_held_drew (S := (fun w' => w'.cell? ⟨w.heap.size + 1, 0, none⟩ = some (.slice (some ⟨w.heap.size, 0, none⟩) (s.days.length + 1) (s.days.length + 1)) ∧ w'.cell? ⟨lb, 5, none⟩ = some (.slice da s.days.length dcap))) (by kernel_rfl) ?_ (fun hHeld => ?_)
      · first | (first
         | (go_keep; done)
         | exact ⟨kx _ _ _ _ x0, kx _ _ _ _ m5⟩
         | (go_split_ands
            refine ⟨?_, ?_⟩
            · (rw [hgrow.cell_far _ (by simp; omega) (Ne.symm ab)]; assumption)
            · (rw [hgrow.cell_far _ (by simp; omega) (Ne.symm al)]; assumption))
         | exact ⟨(World.cell?_setCell_far _ _ _ _ (by show w.heap.size ≠ w.heap.size + 1; omega)).trans hcb, (World.cell?_setCell_far _ _ _ _ (by show w.heap.size ≠ lb; omega)).trans hcl⟩) | (dsimp only; (first
         | (go_keep; done)
         | exact ⟨kx _ _ _ _ x0, kx _ _ _ _ m5⟩
         | (go_split_ands
            refine ⟨?_, ?_⟩
            · (rw [hgrow.cell_far _ (by simp; omega) (Ne.symm ab)]; assumption)
            · (rw [hgrow.cell_far _ (by simp; omega) (Ne.symm al)]; assumption))
         | exact ⟨(World.cell?_setCell_far _ _ _ _ (by show w.heap.size ≠ w.heap.size + 1; omega)).trans hcb, (World.cell?_setCell_far _ _ _ _ (by show w.heap.size ≠ lb; omega)).trans hcl⟩))
      refine wpAnyH_take (i := 0) (v := ?_) rfl (by kernel_rfl) (by kernel_rfl) (by kernel_rfl) (fun _ _ _ h => h) (Or.inl ⟨by rfl, ?_⟩) (by assumption) ?_
      rotate_left
      · intro w hSw; (try dsimp only at hSw); go_simp; (try with_reducible rfl)
      try simp only [Act.put, List.setIfInBounds_toArray, List.set_cons_zero, List.set_cons_succ]
      refine wpAnyH_take (i := 1) (v := ?_) rfl (by kernel_rfl) (by kernel_rfl) (by kernel_rfl) (fun _ _ _ h => h) (Or.inl ⟨by rfl, ?_⟩) (by assumption) ?_
      rotate_left
      · intro w hSw; (try dsimp only at hSw); go_simp; (try with_reducible rfl)
      try simp only [Act.put, List.setIfInBounds_toArray, List.set_cons_zero, List.set_cons_succ]
      refine wpAnyH_take (i := 2) (v := ?_) rfl (by kernel_rfl) (by kernel_rfl) (by kernel_rfl) (fun _ _ _ h => h) (Or.inl ⟨by rfl, ?_⟩) (by assumption) ?_
      rotate_left
      · intro w hSw; (try dsimp only at hSw); go_simp; (try with_reducible rfl)
      try simp only [Act.put, List.setIfInBounds_toArray, List.set_cons_zero, List.set_cons_succ]
      refine wpAnyH_take (i := 3) (v := ?_) rfl (by kernel_rfl) (by kernel_rfl) (by kernel_rfl) (fun _ _ _ h => h) (Or.inl ⟨by rfl, ?_⟩) (by assumption) ?_
      rotate_left
      · intro w hSw; (try dsimp only at hSw); go_simp; (try with_reducible rfl)
      try simp only [Act.put, List.setIfInBounds_toArray, List.set_cons_zero, List.set_cons_succ]
      refine wpAnyH_take (i := 4) (v := ?_) rfl (by kernel_rfl) (by kernel_rfl) (by kernel_rfl) (fun _ _ _ h => h) (Or.inl ⟨by rfl, ?_⟩) (by assumption) ?_
      rotate_left
      · intro w hSw; (try dsimp only at hSw); go_simp; (try with_reducible rfl)
      try simp only [Act.put, List.setIfInBounds_toArray, List.set_cons_zero, List.set_cons_succ]
      refine wpAnyH_take (i := 5) (v := ?_) rfl (by kernel_rfl) (by kernel_rfl) (by kernel_rfl) (fun _ _ _ h => h) (Or.inl ⟨by rfl, ?_⟩) (by assumption) ?_
      rotate_left
      · intro w hSw; (try dsimp only at hSw); go_simp; (try with_reducible rfl)
      try simp only [Act.put, List.setIfInBounds_toArray, List.set_cons_zero, List.set_cons_succ]
      refine wpAnyH_take (i := 6) (v := ?_) rfl (by kernel_rfl) (by kernel_rfl) (by kernel_rfl) (fun _ _ _ h => h) (Or.inl ⟨by rfl, ?_⟩) (by assumption) ?_
      rotate_left
      · intro w hSw; (try dsimp only at hSw); go_simp; (try with_reducible rfl)
      try simp only [Act.put, List.setIfInBounds_toArray, List.set_cons_zero, List.set_cons_succ]
      refine wpAnyH_take (i := 7) (v := ?_) rfl (by kernel_rfl) (by kernel_rfl) (by kernel_rfl) (fun _ _ _ h => h) (Or.inl ⟨by rfl, ?_⟩) (by assumption) ?_
      rotate_left
      · intro w hSw; (try dsimp only at hSw); go_simp; (try with_reducible rfl)
      try simp only [Act.put, List.setIfInBounds_toArray, List.set_cons_zero, List.set_cons_succ]
      refine wpAnyH_take (i := 8) (v := ?_) rfl (by kernel_rfl) (by kernel_rfl) (by kernel_rfl) (fun _ _ _ h => h) (Or.inl ⟨by rfl, ?_⟩) (by assumption) ?_
      rotate_left
      · intro w hSw; (try dsimp only at hSw); go_simp; (try with_reducible rfl)
      try simp only [Act.put, List.setIfInBounds_toArray, List.set_cons_zero, List.set_cons_succ]
      refine wpAnyH_take (i := 9) (v := ?_) rfl (by kernel_rfl) (by kernel_rfl) (by kernel_rfl) (fun _ _ _ h => h) (Or.inl ⟨by rfl, ?_⟩) (by assumption) ?_
      rotate_left
      · intro w hSw; (try dsimp only at hSw); go_simp; (try with_reducible rfl)
      try simp only [Act.put, List.setIfInBounds_toArray, List.set_cons_zero, List.set_cons_succ]
      refine wpAnyH_take (i := 10) (v := ?_) rfl (by kernel_rfl) (by kernel_rfl) (by kernel_rfl) (fun _ _ _ h => h) (Or.inl ⟨by rfl, ?_⟩) (by assumption) ?_
      rotate_left
      · intro w hSw; (try dsimp only at hSw); go_simp; (try with_reducible rfl)
      try simp only [Act.put, List.setIfInBounds_toArray, List.set_cons_zero, List.set_cons_succ]
      refine wpAnyH_take (i := 11) (v := ?_) rfl (by kernel_rfl) (by kernel_rfl) (by kernel_rfl) (fun _ _ _ h => h) (Or.inl ⟨by rfl, ?_⟩) (by assumption) ?_
      rotate_left
      · intro w hSw; (try dsimp only at hSw); go_simp; (try with_reducible rfl)
      try simp only [Act.put, List.setIfInBounds_toArray, List.set_cons_zero, List.set_cons_succ]
      refine wpAnyH_take (i := 12) (v := ?_) rfl (by kernel_rfl) (by kernel_rfl) (by kernel_rfl) (fun _ _ _ h => h) (Or.inl ⟨by rfl, ?_⟩) (by assumption) ?_
      rotate_left
      · intro w hSw; (try dsimp only at hSw); go_simp; (try with_reducible rfl)
      try simp only [Act.put, List.setIfInBounds_toArray, List.set_cons_zero, List.set_cons_succ]
      refine wpAnyH_take (i := 13) (v := ?_) rfl (by kernel_rfl) (by kernel_rfl) (by kernel_rfl) (fun _ _ _ h => h) (Or.inl ⟨by rfl, ?_⟩) (by assumption) ?_
      rotate_left
      · intro w hSw; (try dsimp only at hSw); go_simp; (try with_reducible rfl)
      try simp only [Act.put, List.setIfInBounds_toArray, List.set_cons_zero, List.set_cons_succ]
      refine wpAnyH_take (i := 14) (v := ?_) rfl (by kernel_rfl) (by kernel_rfl) (by kernel_rfl) (fun _ _ _ h => h) (Or.inl ⟨by rfl, ?_⟩) (by assumption) ?_
      rotate_left
      · intro w hSw; (try dsimp only at hSw); go_simp; (try with_reducible rfl)
      try simp only [Act.put, List.setIfInBounds_toArray, List.set_cons_zero, List.set_cons_succ]
      refine wpAnyH_take (i := 16) (v := ?_) rfl (by kernel_rfl) (by kernel_rfl) (by kernel_rfl) (fun _ _ _ h => h) (Or.inl ⟨by rfl, ?_⟩) (by assumption) ?_
      rotate_left
      · intro w hSw; (try dsimp only at hSw); go_simp; (try with_reducible rfl)
      try simp only [Act.put, List.setIfInBounds_toArray, List.set_cons_zero, List.set_cons_succ]
      refine wpAnyH_ready (rs := [15, 17]) (by kernel_rfl) (by simp) ?_
      refine AllReadyH.cons rfl (fun K hK => ?wayA35633) (AllReadyH.cons rfl (fun K hK => ?wayB35633) AllReadyH.nil)
      case' wayA35633 =>
       go_simp
       refine hK.out _ _ ?_ (fun hNow => ?_)
       · first | (first
         | (go_keep; done)
         | exact ⟨kx _ _ _ _ x0, kx _ _ _ _ m5⟩
         | (go_split_ands
            refine ⟨?_, ?_⟩
            · (rw [hgrow.cell_far _ (by simp; omega) (Ne.symm ab)]; assumption)
            · (rw [hgrow.cell_far _ (by simp; omega) (Ne.symm al)]; assumption))
         | exact ⟨(World.cell?_setCell_far _ _ _ _ (by show w.heap.size ≠ w.heap.size + 1; omega)).trans hcb, (World.cell?_setCell_far _ _ _ _ (by show w.heap.size ≠ lb; omega)).trans hcl⟩) | (dsimp only; (first
         | (go_keep; done)
         | exact ⟨kx _ _ _ _ x0, kx _ _ _ _ m5⟩
         | (go_split_ands
            refine ⟨?_, ?_⟩
            · (rw [hgrow.cell_far _ (by simp; omega) (Ne.symm ab)]; assumption)
            · (rw [hgrow.cell_far _ (by simp; omega) (Ne.symm al)]; assumption))
         | exact ⟨(World.cell?_setCell_far _ _ _ _ (by show w.heap.size ≠ w.heap.size + 1; omega)).trans hcb, (World.cell?_setCell_far _ _ _ _ (by show w.heap.size ≠ lb; omega)).trans hcl⟩))
       clear hK K hHeld
       have hHeld := hNow
       clear hNow
       try simp only [Act.put, List.setIfInBounds_toArray, List.set_cons_zero, List.set_cons_succ]
       refine wpAnyH_ready (rs := [17]) (by kernel_rfl) (by simp) ?_
       refine AllReadyH.cons rfl (fun K hK => ?_) AllReadyH.nil
       go_simp
       refine hK.out _ _ ?_ (fun hNow => ?_)
       · first | (first
         | (go_keep; done)
         | exact ⟨kx _ _ _ _ x0, kx _ _ _ _ m5⟩
         | (go_split_ands
            refine ⟨?_, ?_⟩
            · (rw [hgrow.cell_far _ (by simp; omega) (Ne.symm ab)]; assumption)
            · (rw [hgrow.cell_far _ (by simp; omega) (Ne.symm al)]; assumption))
         | exact ⟨(World.cell?_setCell_far _ _ _ _ (by show w.heap.size ≠ w.heap.size + 1; omega)).trans hcb, (World.cell?_setCell_far _ _ _ _ (by show w.heap.size ≠ lb; omega)).trans hcl⟩) | (dsimp only; (first
         | (go_keep; done)
         | exact ⟨kx _ _ _ _ x0, kx _ _ _ _ m5⟩
         | (go_split_ands
            refine ⟨?_, ?_⟩
            · (rw [hgrow.cell_far _ (by simp; omega) (Ne.symm ab)]; assumption)
            · (rw [hgrow.cell_far _ (by simp; omega) (Ne.symm al)]; assumption))
         | exact ⟨(World.cell?_setCell_far _ _ _ _ (by show w.heap.size ≠ w.heap.size + 1; omega)).trans hcb, (World.cell?_setCell_far _ _ _ _ (by show w.heap.size ≠ lb; omega)).trans hcl⟩))
       clear hK K hHeld
       have hHeld := hNow
       clear hNow
       try simp only [Act.put, List.setIfInBounds_toArray, List.set_cons_zero, List.set_cons_succ]
       refine wpAnyH_ready (rs := [18]) (by kernel_rfl) (by simp) ?_
       refine AllReadyH.cons rfl (fun K hK => ?_) AllReadyH.nil
       ((refine step_append_lies _ (by rfl) _ _ _ (by rfl) w.heap.size 3 i0 _ 1 8 Tryz.underlying41 hi0 hz0 hz1 hz2 rfl (by decide) v0 _ _ (by rfl) ((World.ownsRow.alloc hown _).drew) ⟨X.heap.size, 0, none⟩ 1 1 [.int .i64 0] (by rfl) (by rfl) (World.news_of_block (cs := #[.int .i64 0]) (t := 3) (fr := (0, 0)) (heap_alloc_new X _)) (by simp [Value.oneCell']) (by decide) hl1 hl2 (by simp; omega) (X.heap.size + 1) (by simp) ?_; intro gg gcap w1 hown1 hgrow hat hglt; have hcb := (hgrow.cell_far _ (by simp; omega) (Ne.symm ab)).trans (kx _ _ _ _ x0); have hcl := (hgrow.cell_far _ (by simp; omega) (Ne.symm al)).trans (kx _ _ _ _ m5); have hcz : w1.cell? ⟨w.heap.size, s.days.length, none⟩ = some v0 := (hgrow.cell_far _ (by simp; omega) (Ne.symm hne)).trans (kx _ _ _ _ x1); have hfz : w1.frozen? ⟨w.heap.size, s.days.length, none⟩ = false := (hgrow.frozen_far _ (by simp; omega) (Ne.symm hne)).trans (fx _)))
       refine hK.out _ _ ?_ (fun hNow => ?_)
       · first | (first
         | (go_keep; done)
         | exact ⟨kx _ _ _ _ x0, kx _ _ _ _ m5⟩
         | (go_split_ands
            refine ⟨?_, ?_⟩
            · (rw [hgrow.cell_far _ (by simp; omega) (Ne.symm ab)]; assumption)
            · (rw [hgrow.cell_far _ (by simp; omega) (Ne.symm al)]; assumption))
         | exact ⟨(World.cell?_setCell_far _ _ _ _ (by show w.heap.size ≠ w.heap.size + 1; omega)).trans hcb, (World.cell?_setCell_far _ _ _ _ (by show w.heap.size ≠ lb; omega)).trans hcl⟩) | (dsimp only; (first
         | (go_keep; done)
         | exact ⟨kx _ _ _ _ x0, kx _ _ _ _ m5⟩
         | (go_split_ands
            refine ⟨?_, ?_⟩
            · (rw [hgrow.cell_far _ (by simp; omega) (Ne.symm ab)]; assumption)
            · (rw [hgrow.cell_far _ (by simp; omega) (Ne.symm al)]; assumption))
         | exact ⟨(World.cell?_setCell_far _ _ _ _ (by show w.heap.size ≠ w.heap.size + 1; omega)).trans hcb, (World.cell?_setCell_far _ _ _ _ (by show w.heap.size ≠ lb; omega)).trans hcl⟩))
       clear hK K hHeld
       have hHeld := hNow
       clear hNow
       try simp only [Act.put, List.setIfInBounds_toArray, List.set_cons_zero, List.set_cons_succ]
       refine wpAnyH_take (i := 19) (v := ?_) rfl (by kernel_rfl) (by kernel_rfl) (by kernel_rfl) (fun _ _ _ h => h) (Or.inl ⟨by rfl, ?_⟩) (by assumption) ?_
       rotate_left
       · intro w hSw; (try dsimp only at hSw); go_simp; (try with_reducible rfl)
       try simp only [Act.put, List.setIfInBounds_toArray, List.set_cons_zero, List.set_cons_succ]
       refine wpAnyH_ready (rs := [20]) (by kernel_rfl) (by simp) ?_
       refine AllReadyH.cons rfl (fun K hK => ?_) AllReadyH.nil
       go_simp
       refine hK.out _ _ ?_ (fun hNow => ?_)
       · first | (first
         | (go_keep; done)
         | exact ⟨kx _ _ _ _ x0, kx _ _ _ _ m5⟩
         | (go_split_ands
            refine ⟨?_, ?_⟩
            · (rw [hgrow.cell_far _ (by simp; omega) (Ne.symm ab)]; assumption)
            · (rw [hgrow.cell_far _ (by simp; omega) (Ne.symm al)]; assumption))
         | exact ⟨(World.cell?_setCell_far _ _ _ _ (by show w.heap.size ≠ w.heap.size + 1; omega)).trans hcb, (World.cell?_setCell_far _ _ _ _ (by show w.heap.size ≠ lb; omega)).trans hcl⟩) | (dsimp only; (first
         | (go_keep; done)
         | exact ⟨kx _ _ _ _ x0, kx _ _ _ _ m5⟩
         | (go_split_ands
            refine ⟨?_, ?_⟩
            · (rw [hgrow.cell_far _ (by simp; omega) (Ne.symm ab)]; assumption)
            · (rw [hgrow.cell_far _ (by simp; omega) (Ne.symm al)]; assumption))
         | exact ⟨(World.cell?_setCell_far _ _ _ _ (by show w.heap.size ≠ w.heap.size + 1; omega)).trans hcb, (World.cell?_setCell_far _ _ _ _ (by show w.heap.size ≠ lb; omega)).trans hcl⟩))
       clear hK K hHeld
       have hHeld := hNow
       clear hNow
       try simp only [Act.put, List.setIfInBounds_toArray, List.set_cons_zero, List.set_cons_succ]
       refine wpAnyH_done (by kernel_rfl) ?_ _
       refine NoPanic.normal ?_
      case' wayB35633 =>
       go_simp
       refine hK.out _ _ ?_ (fun hNow => ?_)
       · first | (first
         | (go_keep; done)
         | exact ⟨kx _ _ _ _ x0, kx _ _ _ _ m5⟩
         | (go_split_ands
            refine ⟨?_, ?_⟩
            · (rw [hgrow.cell_far _ (by simp; omega) (Ne.symm ab)]; assumption)
            · (rw [hgrow.cell_far _ (by simp; omega) (Ne.symm al)]; assumption))
         | exact ⟨(World.cell?_setCell_far _ _ _ _ (by show w.heap.size ≠ w.heap.size + 1; omega)).trans hcb, (World.cell?_setCell_far _ _ _ _ (by show w.heap.size ≠ lb; omega)).trans hcl⟩) | (dsimp only; (first
         | (go_keep; done)
         | exact ⟨kx _ _ _ _ x0, kx _ _ _ _ m5⟩
         | (go_split_ands
            refine ⟨?_, ?_⟩
            · (rw [hgrow.cell_far _ (by simp; omega) (Ne.symm ab)]; assumption)
            · (rw [hgrow.cell_far _ (by simp; omega) (Ne.symm al)]; assumption))
         | exact ⟨(World.cell?_setCell_far _ _ _ _ (by show w.heap.size ≠ w.heap.size + 1; omega)).trans hcb, (World.cell?_setCell_far _ _ _ _ (by show w.heap.size ≠ lb; omega)).trans hcl⟩))
       clear hK K hHeld
       have hHeld := hNow
       clear hNow
       try simp only [Act.put, List.setIfInBounds_toArray, List.set_cons_zero, List.set_cons_succ]
       refine wpAnyH_ready (rs := [15]) (by kernel_rfl) (by simp) ?_
       refine AllReadyH.cons rfl (fun K hK => ?_) AllReadyH.nil
       go_simp
       refine hK.out _ _ ?_ (fun hNow => ?_)
       · first | (first
         | (go_keep; done)
         | exact ⟨kx _ _ _ _ x0, kx _ _ _ _ m5⟩
         | (go_split_ands
            refine ⟨?_, ?_⟩
            · (rw [hgrow.cell_far _ (by simp; omega) (Ne.symm ab)]; assumption)
            · (rw [hgrow.cell_far _ (by simp; omega) (Ne.symm al)]; assumption))
         | exact ⟨(World.cell?_setCell_far _ _ _ _ (by show w.heap.size ≠ w.heap.size + 1; omega)).trans hcb, (World.cell?_setCell_far _ _ _ _ (by show w.heap.size ≠ lb; omega)).trans hcl⟩) | (dsimp only; (first
         | (go_keep; done)
         | exact ⟨kx _ _ _ _ x0, kx _ _ _ _ m5⟩
         | (go_split_ands
            refine ⟨?_, ?_⟩
            · (rw [hgrow.cell_far _ (by simp; omega) (Ne.symm ab)]; assumption)
            · (rw [hgrow.cell_far _ (by simp; omega) (Ne.symm al)]; assumption))
         | exact ⟨(World.cell?_setCell_far _ _ _ _ (by show w.heap.size ≠ w.heap.size + 1; omega)).trans hcb, (World.cell?_setCell_far _ _ _ _ (by show w.heap.size ≠ lb; omega)).trans hcl⟩))
       clear hK K hHeld
       have hHeld := hNow
       clear hNow
       try simp only [Act.put, List.setIfInBounds_toArray, List.set_cons_zero, List.set_cons_succ]
       refine wpAnyH_ready (rs := [18]) (by kernel_rfl) (by simp) ?_
       refine AllReadyH.cons rfl (fun K hK => ?_) AllReadyH.nil
       ((refine step_append_lies _ (by rfl) _ _ _ (by rfl) w.heap.size 3 i0 _ 1 8 Tryz.underlying41 hi0 hz0 hz1 hz2 rfl (by decide) v0 _ _ (by rfl) ((World.ownsRow.alloc hown _).drew) ⟨X.heap.size, 0, none⟩ 1 1 [.int .i64 0] (by rfl) (by rfl) (World.news_of_block (cs := #[.int .i64 0]) (t := 3) (fr := (0, 0)) (heap_alloc_new X _)) (by simp [Value.oneCell']) (by decide) hl1 hl2 (by simp; omega) (X.heap.size + 1) (by simp) ?_; intro gg gcap w1 hown1 hgrow hat hglt; have hcb := (hgrow.cell_far _ (by simp; omega) (Ne.symm ab)).trans (kx _ _ _ _ x0); have hcl := (hgrow.cell_far _ (by simp; omega) (Ne.symm al)).trans (kx _ _ _ _ m5); have hcz : w1.cell? ⟨w.heap.size, s.days.length, none⟩ = some v0 := (hgrow.cell_far _ (by simp; omega) (Ne.symm hne)).trans (kx _ _ _ _ x1); have hfz : w1.frozen? ⟨w.heap.size, s.days.length, none⟩ = false := (hgrow.frozen_far _ (by simp; omega) (Ne.symm hne)).trans (fx _)))
       refine hK.out _ _ ?_ (fun hNow => ?_)
       · first | (first
         | (go_keep; done)
         | exact ⟨kx _ _ _ _ x0, kx _ _ _ _ m5⟩
         | (go_split_ands
            refine ⟨?_, ?_⟩
            · (rw [hgrow.cell_far _ (by simp; omega) (Ne.symm ab)]; assumption)
            · (rw [hgrow.cell_far _ (by simp; omega) (Ne.symm al)]; assumption))
         | exact ⟨(World.cell?_setCell_far _ _ _ _ (by show w.heap.size ≠ w.heap.size + 1; omega)).trans hcb, (World.cell?_setCell_far _ _ _ _ (by show w.heap.size ≠ lb; omega)).trans hcl⟩) | (dsimp only; (first
         | (go_keep; done)
         | exact ⟨kx _ _ _ _ x0, kx _ _ _ _ m5⟩
         | (go_split_ands
            refine ⟨?_, ?_⟩
            · (rw [hgrow.cell_far _ (by simp; omega) (Ne.symm ab)]; assumption)
            · (rw [hgrow.cell_far _ (by simp; omega) (Ne.symm al)]; assumption))
         | exact ⟨(World.cell?_setCell_far _ _ _ _ (by show w.heap.size ≠ w.heap.size + 1; omega)).trans hcb, (World.cell?_setCell_far _ _ _ _ (by show w.heap.size ≠ lb; omega)).trans hcl⟩))
       clear hK K hHeld
       have hHeld := hNow
       clear hNow
       try simp only [Act.put, List.setIfInBounds_toArray, List.set_cons_zero, List.set_cons_succ]
       refine wpAnyH_take (i := 19) (v := ?_) rfl (by kernel_rfl) (by kernel_rfl) (by kernel_rfl) (fun _ _ _ h => h) (Or.inl ⟨by rfl, ?_⟩) (by assumption) ?_
       rotate_left
       · intro w hSw; (try dsimp only at hSw); go_simp; (try with_reducible rfl)
       try simp only [Act.put, List.setIfInBounds_toArray, List.set_cons_zero, List.set_cons_succ]
       refine wpAnyH_ready (rs := [20]) (by kernel_rfl) (by simp) ?_
       refine AllReadyH.cons rfl (fun K hK => ?_) AllReadyH.nil
       go_simp
       refine hK.out _ _ ?_ (fun hNow => ?_)
       · first | (first
         | (go_keep; done)
         | exact ⟨kx _ _ _ _ x0, kx _ _ _ _ m5⟩
         | (go_split_ands
            refine ⟨?_, ?_⟩
            · (rw [hgrow.cell_far _ (by simp; omega) (Ne.symm ab)]; assumption)
            · (rw [hgrow.cell_far _ (by simp; omega) (Ne.symm al)]; assumption))
         | exact ⟨(World.cell?_setCell_far _ _ _ _ (by show w.heap.size ≠ w.heap.size + 1; omega)).trans hcb, (World.cell?_setCell_far _ _ _ _ (by show w.heap.size ≠ lb; omega)).trans hcl⟩) | (dsimp only; (first
         | (go_keep; done)
         | exact ⟨kx _ _ _ _ x0, kx _ _ _ _ m5⟩
         | (go_split_ands
            refine ⟨?_, ?_⟩
            · (rw [hgrow.cell_far _ (by simp; omega) (Ne.symm ab)]; assumption)
            · (rw [hgrow.cell_far _ (by simp; omega) (Ne.symm al)]; assumption))
         | exact ⟨(World.cell?_setCell_far _ _ _ _ (by show w.heap.size ≠ w.heap.size + 1; omega)).trans hcb, (World.cell?_setCell_far _ _ _ _ (by show w.heap.size ≠ lb; omega)).trans hcl⟩))
       clear hK K hHeld
       have hHeld := hNow
       clear hNow
       try simp only [Act.put, List.setIfInBounds_toArray, List.set_cons_zero, List.set_cons_succ]
       refine wpAnyH_done (by kernel_rfl) ?_ _
       refine NoPanic.normal ?_
      all_goals
       go_wp2
       have hgX : X.grownBy w1 v0.ownBlock := grownBy_trans (World.grownBy_alloc X _ _) ⟨hgrow.os, hgrow.tape, hgrow.output, hgrow.size, hgrow.block⟩
       have hmore := OwnMat.more (y := 0) (v' := .slice (some ⟨gg, 0, none⟩) ((Sea.lstAt (Sea.tbl s.days.length (s.vals noms) 0 f) s.days.length).length + 1) gcap) hMd (i := s.days.length) (by rw [hlen]; omega) (by rw [hv0]; exact hgX) (own_more (y := 0) hown1) (by rw [hv0]; rcases hat with e | e; exact .inl e.symm; exact .inr ⟨gg, rfl, by omega⟩)
       have ht := Sea.tbl_more s.days.length (s.vals noms) 0 f 0 (by omega) (by show s.last[f]? = _; unfold Sea.S.last; rw [List.getElem?_map, List.getElem?_range (by omega)]; show some (s.lastAt f) = _; unfold Sea.S.lastAt; rw [he]; rfl)
       rw [Nat.sub_zero] at ht
       rw [ht] at hmore
       have hBn : Below w.heap.size w (w1.setCell ⟨w.heap.size, s.days.length, none⟩ (.slice (some ⟨gg, 0, none⟩) ((Sea.lstAt (Sea.tbl s.days.length (s.vals noms) 0 f) s.days.length).length + 1) gcap)) :=
        (hBd.grown hgX hBd.size (fun k e => (hown.lt k e).1)).setCell (p := ⟨w.heap.size, s.days.length, none⟩) (Nat.le_refl _) _
       have hbn : (w1.setCell ⟨w.heap.size, s.days.length, none⟩ (.slice (some ⟨gg, 0, none⟩) ((Sea.lstAt (Sea.tbl s.days.length (s.vals noms) 0 f) s.days.length).length + 1) gcap)).heap[w.heap.size + 1]? = _ :=
        (Below.heap_setCell _ _ _ _ (by show w.heap.size + 1 ≠ w.heap.size; omega)).trans ((hgX.block _ zb (Ne.symm ab)).trans hbxd)
       simp only [hat0, List.length_take] at hmore hBn hbn
       refine ⟨⟨f + 1, by omega, by go_num, ⟨_, hmore, ?_⟩, hbn, hBn⟩, by simp [intOf]; omega⟩
       intro i hi
       rw [valAt_set hvl]
       by_cases hin : i = s.days.length
       · rw [if_pos hin]
         show some gg ≠ _
         rcases hat with e | e
         · rw [← e]; exact ab
         · intro h; cases h; omega
       · rw [if_neg hin]; exact hnb i hi
  · have hfe : f = (s.space + 1).toNat := by omega
    have hT : TabAt w.heap.size w.heap.size [w.heap.size + 1] wr (Sea.tbl s.days.length (s.vals noms) 1 0) := by
     obtain ⟨vs, h1, h2⟩ := hM.out
     refine ⟨vs, by rw [← Sea.tbl_next _ _ 0 f (by omega) (by rw [Sea.S.vals_length]; omega)]; exact h1, fun i hi k hk => ?_⟩
     rw [Sea.tbl_length] at hi
     rw [List.mem_singleton.1 hk]
     exact h2 i (by omega)
    replace hT := Lib.hid hT
    replace hfe := Lib.hid hfe
    clear hM
    go_wp2
    generalize hX : wr.alloc (.cells #[.int .i64 ((s.days.length : Int) - 1)] 3) = X
    have hBX : Below wr.heap.size wr X := by rw [← hX]; exact (Below.refl _ _).alloc (Nat.le_refl _) _
    have hbd : X.heap[wr.heap.size]? = some (.cells #[.int .i64 ((s.days.length : Int) - 1)] 3) := by rw [← hX]; exact World.alloc_heap_new _ _
    have hTX : TabAt w.heap.size w.heap.size [wr.heap.size, w.heap.size + 1] X (Sea.tbl s.days.length (s.vals noms) 1 0) := (hT.out.add (Nat.le_refl _)).mono hBX
    have hBw : Below w.heap.size w X := hB.trans (hBX.mono hB.size)
    have hbo2 : X.heap[w.heap.size + 1]? = _ := (hBX.block _ zb).trans hbx
    have hlow : w.heap.size + 1 < wr.heap.size := zb
    clear hX hBX hT hB hbx zb db fb x0 m2 m3 m5
    generalize wr.heap.size = bd at *
    go_loopw [8] (fun p wr => ∃ (j bd : Nat), j ≤ s.days.length ∧ p = .pointer (some ⟨bd, 0, none⟩) ∧ w.heap.size + 1 < bd ∧ wr.heap[bd]? = some (.cells #[.int .i64 ((s.days.length : Int) - 1 - j)] 3) ∧
     Hid (TabAt w.heap.size w.heap.size [bd, w.heap.size + 1] wr (Sea.tbl s.days.length (s.vals noms) (j + 1) 0)) ∧
     wr.heap[w.heap.size + 1]? = some (.cells #[.slice (some ⟨w.heap.size, 0, none⟩) (s.days.length + 1) (s.days.length + 1)] 100) ∧ Below w.heap.size w wr)
     (fun p wr => (boxInt p wr + 1).toNat)
    case atStart => exact ⟨0, bd, by omega, rfl, hlow, by rw [hbd]; simp, hTX, hbo2, hBw⟩
    case round =>
     obtain ⟨j, bd, hj, rfl, hlow, hbx, hT, hbo, hB⟩ := hrel
     clear hTX hbo2 hBw hbd
     obtain ⟨zb, db, fb⟩ := row_cells hbx
     have x0 := db 0
     obtain ⟨zo, do_, fo⟩ := row_cells hbo
     have y0 := do_ 0
     simp only [List.getElem?_toArray, List.getElem?_cons_zero] at x0 y0
     have m0 := kept_cell hB l0
     by_cases hjn : j < s.days.length
     · obtain ⟨d, hd⟩ := Int.eq_ofNat_of_zero_le (show (0 : Int) ≤ (s.days.length : Int) - 1 - j by omega)
       rw [hd] at x0 hbx
       have hd2 : d + 1 + j = s.days.length := by omega
       replace hd := Lib.hid hd
       replace hd2 := Lib.hid hd2
       clear db fb do_ fo
       have hMO : Hid (boxInt (.pointer (some ⟨bd, 0, none⟩)) wr = d) := boxInt_of x0
       have hnb := (noms_bd ok hno).2
       have hnl := Lib.hid (noms_bd ok hno).1
       go_wp2
       go_loopw [82] (fun i wr => ∃ f : Nat, (f : Int) ≤ s.space + 1 ∧ i = .int .i64 f ∧ wr.heap[bd]? = some (.cells #[.int .i64 d] 3) ∧
        Hid (TabAt w.heap.size w.heap.size [bd, w.heap.size + 1] wr (Sea.tbl s.days.length (s.vals noms) (j + 1) f)) ∧
        wr.heap[w.heap.size + 1]? = some (.cells #[.slice (some ⟨w.heap.size, 0, none⟩) (s.days.length + 1) (s.days.length + 1)] 100) ∧ Below w.heap.size w wr)
        (fun i _ => (s.space + 1 - intOf i).toNat)
       case atStart => exact ⟨0, by omega, rfl, hbx, hT, hbo, hB⟩
       case round =>
        clear hT hbo hB hbx x0 y0 m0 zo zb
        rename_i wr2
        obtain ⟨f2, hf2, rfl, hbx, hT, hbo, hB⟩ := hrel
        obtain ⟨zb, db, fb⟩ := row_cells hbx
        have x0 := db 0
        obtain ⟨zo, do_, fo⟩ := row_cells hbo
        have y0 := do_ 0
        simp only [List.getElem?_toArray, List.getElem?_cons_zero] at x0 y0
        have hl2 := hl.mono hB
        have hn2 := hn.mono hB
        clear db fb do_ fo
        by_cases hlt : (f2 : Int) ≤ s.space
        · obtain ⟨nb, noff, ncap, rfl, hnlt, hnm, hnk⟩ := int_cell hn2 (by rw [hnl.out]; omega)
          have hdl : d < noms.length := by rw [hnl.out]; have := hd2.out; omega
          have hds : d < s.days.length := by have := hd2.out; omega
          have hNum := Lib.hid (proof_num _ mv s noms wr w.heap.size w.heap.size (w.heap.size + 1) bd j d f2 f2 _ hl2 ok hno hd2.out hlt hT.out y0 x0)
          have z0 := hnk d hdl
          have hdi : (0 : Int) ≤ (d : Int) ∧ (d : Int) < (noms.length : Int) := by omega
          clear hnk
          go_wp2
          obtain ⟨op, oa, oB, oc, od, hout⟩ := out_cells (some ⟨lb, 0, none⟩) d f2 (Sea.at0 noms d) (firstOf (withOf s d f2 (Sea.at0 noms d) (s.vals noms j)) (ordersOf s d f2 (Sea.at0 noms d))).2
          replace hout := Lib.hid hout
          obtain ⟨best, hbest⟩ : ∃ best, (firstOf (withOf s d f2 (Sea.at0 noms d) (s.vals noms j)) (ordersOf s d f2 (Sea.at0 noms d))).1 = best := ⟨_, rfl⟩
          obtain ⟨Phi, hPhiE⟩ : ∃ Phi : Value → World → Prop, Phi = fun v w' => IterAt w' v (.pointer (some ⟨lb, 0, none⟩)) d f2 (Sea.at0 noms d) := ⟨_, rfl⟩
          have hPhi : ∀ v w1 w2, Phi v w1 → Below w1.heap.size w1 w2 → Phi v w2 := by rw [hPhiE]; exact fun v w1 w2 h hb => h.mono (.of hb)
          have cA : ∀ w', Below wr.heap.size wr w' → Calls Tryz.prog 33 #[.pointer (some ⟨lb, 0, none⟩), .agg #[.int .i64 d, .int .i64 f2], .int .i64 (Sea.at0 noms d)] w' fun e w'' => ∃ v, e = .returned v ∧ Phi v w'' ∧ Below w'.heap.size w' w'' := by
           rw [hPhiE]; exact fun w' _ => progOrders _ _ _ _ _
          have cB : ∀ v w', Below wr.heap.size wr w' → Phi v w' → Calls Tryz.prog 32 #[v, .func (.func 65) #[] #[.pointer (some ⟨w.heap.size + 1, 0, none⟩), .pointer (some ⟨bd, 0, none⟩)]] w' fun e w'' => e = .returned (.tuple #[.agg #[.pointer op, .int .i64 oa, .int .i64 oB, .int .i64 oc, .int .i64 od], .int .i64 best, .bool (decide (best < 1000000000000000))]) ∧ Below w'.heap.size w' w'' := by
           rw [hPhiE]
           intro v w' hw' hv
           have := progFirstPlain _ mv _ s d f2 (Sea.at0 noms d) (withOf s d f2 (Sea.at0 noms d) (s.vals noms j)) 65 _ w' (hl2.mono hw') hds ok (by omega) (hnb d hds) hv enter_p1 (fun u hu X hX => hNum.out u hu X (below_tr hw' hX))
           rw [hout.out, hbest] at this
           exact this
          replace hbest := Lib.hid hbest
          replace hPhiE := Lib.hid hPhiE
          clear hl2 hNum hn2 hn
          refine wp_region_vars2 (va := [⟨15, 10, 105, #[.pointer none, .int .i64 0, .int .i64 0, .int .i64 0, .int .i64 0], 16, .tmp 97⟩]) (ab := ⟨8, 94, 10, .tuple #[.agg #[.pointer op, .int .i64 oa, .int .i64 oB, .int .i64 oc, .int .i64 od], .int .i64 best, .bool (decide (best < 1000000000000000))]⟩) (Φ := Phi) growth_below hPhi (by kernel_rfl) (by kernel_rfl) ?_ ?_ (by simp) (by simp) (fun TT ff hTT hff hcl => ?_)
          · intro p hp w
            simp only [List.mem_cons, List.not_mem_nil, or_false] at hp
            rcases hp with rfl <;> go_simp
          · intro p hp
            simp only [List.mem_cons, List.not_mem_nil, or_false] at hp
            rcases hp with rfl <;> kernel_rfl
          have hg : ∀ (g : TT) (b o : Nat), b < wr.heap.size → (ff g).cell? ⟨b, o, none⟩ = wr.cell? ⟨b, o, none⟩ := fun g => below_cell (hff g)
          simp only [lexOf2, lexOp, Nat.reduceEqDiff, List.zipIdx_cons, List.zipIdx_nil, List.map_cons, List.map_nil, isMade, List.any_cons, List.any_nil, Nat.reduceAdd, Nat.reduceBEq, Bool.or_false, Bool.false_or, Bool.or_self, Bool.false_eq_true, if_false, if_true, Nat.zero_add, BEq.rfl, Bool.or_true, Bool.true_or]
          simp only [Go.Sd.blank]
          repeat (go_big_quiet_step (fail))
          refine wpQuiet_nil ?_
          refine ⟨?_, ?_, ?_, ?_⟩
          · intro p hp
            simp only [List.mem_cons, List.not_mem_nil, or_false] at hp
            rcases hp with rfl <;> (constructor <;> simp [go_sem, Value.cells, Value.oneCell'])
          · intro o ho w' hw'
            cases ho
            exact ⟨_, _, by kernel_rfl, cA w' hw'⟩
          · intro o ho v w' hw' hv
            cases ho
            exact ⟨_, _, by kernel_rfl, cB v w' hw' hv⟩
          intro ns vA w' hB' hv
          obtain ⟨n1, rfl, hn1, hl1, hc1, hf1⟩ := vars_one hv
          clear hv hff hcl hg hTT ff TT cA cB hPhi
          simp only [placeV, Act.put, List.setIfInBounds_toArray, List.set_cons_zero, List.set_cons_succ]
          simp [go_sem] at hc1
          clear hPhiE Phi
          have hTX := hT.out.mono hB'
          have hBX := hB.trans (hB'.mono hB.size)
          have hbx2 := block_on hB' hbx
          have hbo2 := block_on hB' hbo
          go_wp2
          clear hbx hbo hnb hB' hB hT
          obtain ⟨vs, hM, hnb⟩ := hTX
          obtain ⟨zb2, db, fb⟩ := row_cells hbx2
          have u0 := db 0
          obtain ⟨zo2, do_, fo⟩ := row_cells hbo2
          have u1 := do_ 0
          simp only [List.getElem?_toArray, List.getElem?_cons_zero] at u0 u1
          have hlen := Sea.tbl_length s.days.length (s.vals noms) (j + 1) f2
          have hat0 : (Sea.lstAt (Sea.tbl s.days.length (s.vals noms) (j + 1) f2) d).length ≤ 1000 := by
           rw [Sea.tbl_at _ _ _ _ _ (by omega), if_neg (by have := hd2.out; omega), if_pos (by have := hd2.out; omega), List.length_take]; omega
          have hlt2 : ∀ k, k ∈ [bd, w.heap.size + 1] → k < w'.heap.size := by intro k hk; rcases List.mem_cons.1 hk with rfl | hk; exact zb2; rw [List.mem_singleton.1 hk]; exact zo2
          have hbb : w.heap.size ∉ [bd, w.heap.size + 1] := by simp; omega
          replace hlt2 := Lib.hid hlt2
          replace hbb := Lib.hid hbb
          have hdd : (0 : Int) ≤ (d : Int) ∧ (d : Int) < (s.days.length : Int) + 1 := by omega
          replace hat0 := Lib.hid hat0
          clear db fb do_ fo x0 y0 z0 zb zo
          obtain ⟨x1, x2⟩ := row_len hM (i := d) (by rw [hlen]; omega)
          have hown := hM.own (d) (by rw [hlen]; omega)
          have hne := hM.ne (d) (by rw [hlen]; omega)
          have hnb2 := hnb (d) (by rw [hlen]; omega)
          obtain ⟨i0, hi0, hz0, hz1, hz2⟩ := info_parts infoInt
          have hL : (Sea.lstAt (Sea.tbl s.days.length (s.vals noms) (j + 1) f2) (d)).length ≤ 1000 := hat0.out
          obtain ⟨v0, hv0⟩ : ∃ v0, valAt vs (d) = v0 := ⟨_, rfl⟩
          rw [hv0] at x1 hown hne hnb2
          have al0 : v0.ownBlock ≠ some (w.heap.size + 1) := hnb2 _ (by simp)
          have al1 : v0.ownBlock ≠ some (bd) := hnb2 _ (by simp)
          have kx : ∀ (o : Obj) (b off : Nat) (v : Value), w'.cell? ⟨b, off, none⟩ = some v → (w'.alloc o).drew.cell? ⟨b, off, none⟩ = some v := fun o b off v h => kept_cell (((Below.refl _ _).alloc (Nat.le_refl _) o).drew) h
          have fx : ∀ (o : Obj), (w'.alloc o).drew.frozen? ⟨w.heap.size, d, none⟩ = false := fun o => ((((Below.refl w'.heap.size w').alloc (Nat.le_refl _) o).drew).frozen (p := ⟨w.heap.size, d, none⟩) (World.block_lt_of_cell? _ ⟨_, _, none⟩ x1)).trans x2
          have hl1 : (Sea.lstAt (Sea.tbl s.days.length (s.vals noms) (j + 1) f2) (d)).length + 1 ≤ maxLen := by unfold maxLen; omega
          have hl2 : ((Sea.lstAt (Sea.tbl s.days.length (s.vals noms) (j + 1) f2) (d)).length + 1) * 8 ≤ 140737488355328 := by omega
          have hbl : w.heap.size < w'.heap.size := World.block_lt_of_cell? _ ⟨_, _, none⟩ x1
          have zl0 : w.heap.size + 1 < w'.heap.size := World.block_lt_of_cell? _ ⟨_, _, none⟩ u1
          have zl1 : bd < w'.heap.size := World.block_lt_of_cell? _ ⟨_, _, none⟩ u0
          refine wp_region_noPanic ?_
          refine wp_region_held_drew (S := (fun w' => w'.cell? ⟨w.heap.size + 1, 0, none⟩ = some (.slice (some ⟨w.heap.size, 0, none⟩) (s.days.length + 1) (s.days.length + 1)) ∧ w'.cell? ⟨bd, 0, none⟩ = some (.int .i64 d))) (by kernel_rfl) ?_ (fun hHeld => ?_)
          · first | (first | (go_keep; done) | exact ⟨kx _ _ _ _ u1, kx _ _ _ _ u0⟩ | exact ⟨hc0, hc1⟩ | exact ⟨(World.cell?_setCell_far _ _ _ _ (by show (w.heap.size : Nat) ≠ w.heap.size + 1; omega)).trans hc0, (World.cell?_setCell_far _ _ _ _ (by show (w.heap.size : Nat) ≠ bd; omega)).trans hc1⟩) | (dsimp only; (first | (go_keep; done) | exact ⟨kx _ _ _ _ u1, kx _ _ _ _ u0⟩ | exact ⟨hc0, hc1⟩ | exact ⟨(World.cell?_setCell_far _ _ _ _ (by show (w.heap.size : Nat) ≠ w.heap.size + 1; omega)).trans hc0, (World.cell?_setCell_far _ _ _ _ (by show (w.heap.size : Nat) ≠ bd; omega)).trans hc1⟩))
          refine wpAnyH_take (i := 0) (v := ?_) rfl (by kernel_rfl) (by kernel_rfl) (by kernel_rfl) (fun _ _ _ h => h) (Or.inl ⟨by rfl, ?_⟩) (by assumption) ?_
          rotate_left
          · intro w hSw; (try dsimp only at hSw); go_simp; (try with_reducible rfl)
          try simp only [Act.put, List.setIfInBounds_toArray, List.set_cons_zero, List.set_cons_succ]
          refine wpAnyH_take (i := 1) (v := ?_) rfl (by kernel_rfl) (by kernel_rfl) (by kernel_rfl) (fun _ _ _ h => h) (Or.inl ⟨by rfl, ?_⟩) (by assumption) ?_
          rotate_left
          · intro w hSw; (try dsimp only at hSw); go_simp; (try with_reducible rfl)
          try simp only [Act.put, List.setIfInBounds_toArray, List.set_cons_zero, List.set_cons_succ]
          refine wpAnyH_take (i := 2) (v := ?_) rfl (by kernel_rfl) (by kernel_rfl) (by kernel_rfl) (fun _ _ _ h => h) (Or.inl ⟨by rfl, ?_⟩) (by assumption) ?_
          rotate_left
          · intro w hSw; (try dsimp only at hSw); go_simp; (try with_reducible rfl)
          try simp only [Act.put, List.setIfInBounds_toArray, List.set_cons_zero, List.set_cons_succ]
          refine wpAnyH_take (i := 3) (v := ?_) rfl (by kernel_rfl) (by kernel_rfl) (by kernel_rfl) (fun _ _ _ h => h) (Or.inl ⟨by rfl, ?_⟩) (by assumption) ?_
          rotate_left
          · intro w hSw; (try dsimp only at hSw); go_simp; (try with_reducible rfl)
          try simp only [Act.put, List.setIfInBounds_toArray, List.set_cons_zero, List.set_cons_succ]
          refine wpAnyH_take (i := 4) (v := ?_) rfl (by kernel_rfl) (by kernel_rfl) (by kernel_rfl) (fun _ _ _ h => h) (Or.inl ⟨by rfl, ?_⟩) (by assumption) ?_
          rotate_left
          · intro w hSw; (try dsimp only at hSw); go_simp; (try with_reducible rfl)
          try simp only [Act.put, List.setIfInBounds_toArray, List.set_cons_zero, List.set_cons_succ]
          refine wpAnyH_take (i := 6) (v := ?_) rfl (by kernel_rfl) (by kernel_rfl) (by kernel_rfl) (fun _ _ _ h => h) (Or.inl ⟨by rfl, ?_⟩) (by assumption) ?_
          rotate_left
          · intro w hSw; (try dsimp only at hSw); go_simp; (try with_reducible rfl)
          try simp only [Act.put, List.setIfInBounds_toArray, List.set_cons_zero, List.set_cons_succ]
          refine wpAnyH_ready (rs := [5, 7]) (by kernel_rfl) (by simp) ?_
          refine AllReadyH.cons rfl (fun K hK => ?wayA70673) (AllReadyH.cons rfl (fun K hK => ?wayB70673) AllReadyH.nil)
          case' wayA70673 =>
           go_simp
           refine hK.out _ _ ?_ (fun hNow => ?_)
           · first | (first | (go_keep; done) | exact ⟨kx _ _ _ _ u1, kx _ _ _ _ u0⟩ | exact ⟨hc0, hc1⟩ | exact ⟨(World.cell?_setCell_far _ _ _ _ (by show (w.heap.size : Nat) ≠ w.heap.size + 1; omega)).trans hc0, (World.cell?_setCell_far _ _ _ _ (by show (w.heap.size : Nat) ≠ bd; omega)).trans hc1⟩) | (dsimp only; (first | (go_keep; done) | exact ⟨kx _ _ _ _ u1, kx _ _ _ _ u0⟩ | exact ⟨hc0, hc1⟩ | exact ⟨(World.cell?_setCell_far _ _ _ _ (by show (w.heap.size : Nat) ≠ w.heap.size + 1; omega)).trans hc0, (World.cell?_setCell_far _ _ _ _ (by show (w.heap.size : Nat) ≠ bd; omega)).trans hc1⟩))
           clear hK K hHeld
           have hHeld := hNow
           clear hNow
           try simp only [Act.put, List.setIfInBounds_toArray, List.set_cons_zero, List.set_cons_succ]
           refine wpAnyH_ready (rs := [7]) (by kernel_rfl) (by simp) ?_
           refine AllReadyH.cons rfl (fun K hK => ?_) AllReadyH.nil
           go_simp
           refine hK.out _ _ ?_ (fun hNow => ?_)
           · first | (first | (go_keep; done) | exact ⟨kx _ _ _ _ u1, kx _ _ _ _ u0⟩ | exact ⟨hc0, hc1⟩ | exact ⟨(World.cell?_setCell_far _ _ _ _ (by show (w.heap.size : Nat) ≠ w.heap.size + 1; omega)).trans hc0, (World.cell?_setCell_far _ _ _ _ (by show (w.heap.size : Nat) ≠ bd; omega)).trans hc1⟩) | (dsimp only; (first | (go_keep; done) | exact ⟨kx _ _ _ _ u1, kx _ _ _ _ u0⟩ | exact ⟨hc0, hc1⟩ | exact ⟨(World.cell?_setCell_far _ _ _ _ (by show (w.heap.size : Nat) ≠ w.heap.size + 1; omega)).trans hc0, (World.cell?_setCell_far _ _ _ _ (by show (w.heap.size : Nat) ≠ bd; omega)).trans hc1⟩))
           clear hK K hHeld
           have hHeld := hNow
           clear hNow
           try simp only [Act.put, List.setIfInBounds_toArray, List.set_cons_zero, List.set_cons_succ]
           refine wpAnyH_ready (rs := [8]) (by kernel_rfl) (by simp) ?_
           refine AllReadyH.cons rfl (fun K hK => ?_) AllReadyH.nil
           ((refine step_append_lies _ (by rfl) _ _ _ (by rfl) w.heap.size 3 i0 _ 1 8 Tryz.underlying41 hi0 hz0 hz1 hz2 rfl (by decide) v0 _ _ (by rfl) ((World.ownsRow.alloc hown _).drew) ⟨w'.heap.size, 0, none⟩ 1 1 [.int .i64 (best)] (by rfl) (by rfl) (World.news_of_block (cs := #[.int .i64 (best)]) (t := 3) (fr := (0, 0)) (heap_alloc_new w' _)) (by simp [Value.oneCell']) (by decide) hl1 hl2 (by simp; omega) (w'.heap.size + 1) (by simp) ?_; intro gg gcap w1 hown1 hgrow hat hglt; have hc0 := (hgrow.cell_far _ (by simp; omega) (Ne.symm al0)).trans (kx _ _ _ _ u1); have hc1 := (hgrow.cell_far _ (by simp; omega) (Ne.symm al1)).trans (kx _ _ _ _ u0); have hcz : w1.cell? ⟨w.heap.size, d, none⟩ = some v0 := (hgrow.cell_far _ (by simp; omega) (Ne.symm hne)).trans (kx _ _ _ _ x1); have hfz : w1.frozen? ⟨w.heap.size, d, none⟩ = false := (hgrow.frozen_far _ (by simp; omega) (Ne.symm hne)).trans (fx _)))
           refine hK.out _ _ ?_ (fun hNow => ?_)
           · first | (first | (go_keep; done) | exact ⟨kx _ _ _ _ u1, kx _ _ _ _ u0⟩ | exact ⟨hc0, hc1⟩ | exact ⟨(World.cell?_setCell_far _ _ _ _ (by show (w.heap.size : Nat) ≠ w.heap.size + 1; omega)).trans hc0, (World.cell?_setCell_far _ _ _ _ (by show (w.heap.size : Nat) ≠ bd; omega)).trans hc1⟩) | (dsimp only; (first | (go_keep; done) | exact ⟨kx _ _ _ _ u1, kx _ _ _ _ u0⟩ | exact ⟨hc0, hc1⟩ | exact ⟨(World.cell?_setCell_far _ _ _ _ (by show (w.heap.size : Nat) ≠ w.heap.size + 1; omega)).trans hc0, (World.cell?_setCell_far _ _ _ _ (by show (w.heap.size : Nat) ≠ bd; omega)).trans hc1⟩))
           clear hK K hHeld
           have hHeld := hNow
           clear hNow
           try simp only [Act.put, List.setIfInBounds_toArray, List.set_cons_zero, List.set_cons_succ]
           refine wpAnyH_take (i := 9) (v := ?_) rfl (by kernel_rfl) (by kernel_rfl) (by kernel_rfl) (fun _ _ _ h => h) (Or.inl ⟨by rfl, ?_⟩) (by assumption) ?_
           rotate_left
           · intro w hSw; (try dsimp only at hSw); go_simp; (try with_reducible rfl)
           try simp only [Act.put, List.setIfInBounds_toArray, List.set_cons_zero, List.set_cons_succ]
           refine wpAnyH_ready (rs := [10]) (by kernel_rfl) (by simp) ?_
           refine AllReadyH.cons rfl (fun K hK => ?_) AllReadyH.nil
           go_simp
           refine hK.out _ _ ?_ (fun hNow => ?_)
           · first | (first | (go_keep; done) | exact ⟨kx _ _ _ _ u1, kx _ _ _ _ u0⟩ | exact ⟨hc0, hc1⟩ | exact ⟨(World.cell?_setCell_far _ _ _ _ (by show (w.heap.size : Nat) ≠ w.heap.size + 1; omega)).trans hc0, (World.cell?_setCell_far _ _ _ _ (by show (w.heap.size : Nat) ≠ bd; omega)).trans hc1⟩) | (dsimp only; (first | (go_keep; done) | exact ⟨kx _ _ _ _ u1, kx _ _ _ _ u0⟩ | exact ⟨hc0, hc1⟩ | exact ⟨(World.cell?_setCell_far _ _ _ _ (by show (w.heap.size : Nat) ≠ w.heap.size + 1; omega)).trans hc0, (World.cell?_setCell_far _ _ _ _ (by show (w.heap.size : Nat) ≠ bd; omega)).trans hc1⟩))
           clear hK K hHeld
           have hHeld := hNow
           clear hNow
           try simp only [Act.put, List.setIfInBounds_toArray, List.set_cons_zero, List.set_cons_succ]
           refine wpAnyH_done (by kernel_rfl) ?_ _
           refine NoPanic.normal ?_
          case' wayB70673 =>
           go_simp
           refine hK.out _ _ ?_ (fun hNow => ?_)
           · first | (first | (go_keep; done) | exact ⟨kx _ _ _ _ u1, kx _ _ _ _ u0⟩ | exact ⟨hc0, hc1⟩ | exact ⟨(World.cell?_setCell_far _ _ _ _ (by show (w.heap.size : Nat) ≠ w.heap.size + 1; omega)).trans hc0, (World.cell?_setCell_far _ _ _ _ (by show (w.heap.size : Nat) ≠ bd; omega)).trans hc1⟩) | (dsimp only; (first | (go_keep; done) | exact ⟨kx _ _ _ _ u1, kx _ _ _ _ u0⟩ | exact ⟨hc0, hc1⟩ | exact ⟨(World.cell?_setCell_far _ _ _ _ (by show (w.heap.size : Nat) ≠ w.heap.size + 1; omega)).trans hc0, (World.cell?_setCell_far _ _ _ _ (by show (w.heap.size : Nat) ≠ bd; omega)).trans hc1⟩))
           clear hK K hHeld
           have hHeld := hNow
           clear hNow
           try simp only [Act.put, List.setIfInBounds_toArray, List.set_cons_zero, List.set_cons_succ]
           refine wpAnyH_ready (rs := [5]) (by kernel_rfl) (by simp) ?_
           refine AllReadyH.cons rfl (fun K hK => ?_) AllReadyH.nil
           go_simp
           refine hK.out _ _ ?_ (fun hNow => ?_)
           · first | (first | (go_keep; done) | exact ⟨kx _ _ _ _ u1, kx _ _ _ _ u0⟩ | exact ⟨hc0, hc1⟩ | exact ⟨(World.cell?_setCell_far _ _ _ _ (by show (w.heap.size : Nat) ≠ w.heap.size + 1; omega)).trans hc0, (World.cell?_setCell_far _ _ _ _ (by show (w.heap.size : Nat) ≠ bd; omega)).trans hc1⟩) | (dsimp only; (first | (go_keep; done) | exact ⟨kx _ _ _ _ u1, kx _ _ _ _ u0⟩ | exact ⟨hc0, hc1⟩ | exact ⟨(World.cell?_setCell_far _ _ _ _ (by show (w.heap.size : Nat) ≠ w.heap.size + 1; omega)).trans hc0, (World.cell?_setCell_far _ _ _ _ (by show (w.heap.size : Nat) ≠ bd; omega)).trans hc1⟩))
           clear hK K hHeld
           have hHeld := hNow
           clear hNow
           try simp only [Act.put, List.setIfInBounds_toArray, List.set_cons_zero, List.set_cons_succ]
           refine wpAnyH_ready (rs := [8]) (by kernel_rfl) (by simp) ?_
           refine AllReadyH.cons rfl (fun K hK => ?_) AllReadyH.nil
           ((refine step_append_lies _ (by rfl) _ _ _ (by rfl) w.heap.size 3 i0 _ 1 8 Tryz.underlying41 hi0 hz0 hz1 hz2 rfl (by decide) v0 _ _ (by rfl) ((World.ownsRow.alloc hown _).drew) ⟨w'.heap.size, 0, none⟩ 1 1 [.int .i64 (best)] (by rfl) (by rfl) (World.news_of_block (cs := #[.int .i64 (best)]) (t := 3) (fr := (0, 0)) (heap_alloc_new w' _)) (by simp [Value.oneCell']) (by decide) hl1 hl2 (by simp; omega) (w'.heap.size + 1) (by simp) ?_; intro gg gcap w1 hown1 hgrow hat hglt; have hc0 := (hgrow.cell_far _ (by simp; omega) (Ne.symm al0)).trans (kx _ _ _ _ u1); have hc1 := (hgrow.cell_far _ (by simp; omega) (Ne.symm al1)).trans (kx _ _ _ _ u0); have hcz : w1.cell? ⟨w.heap.size, d, none⟩ = some v0 := (hgrow.cell_far _ (by simp; omega) (Ne.symm hne)).trans (kx _ _ _ _ x1); have hfz : w1.frozen? ⟨w.heap.size, d, none⟩ = false := (hgrow.frozen_far _ (by simp; omega) (Ne.symm hne)).trans (fx _)))
           refine hK.out _ _ ?_ (fun hNow => ?_)
           · first | (first | (go_keep; done) | exact ⟨kx _ _ _ _ u1, kx _ _ _ _ u0⟩ | exact ⟨hc0, hc1⟩ | exact ⟨(World.cell?_setCell_far _ _ _ _ (by show (w.heap.size : Nat) ≠ w.heap.size + 1; omega)).trans hc0, (World.cell?_setCell_far _ _ _ _ (by show (w.heap.size : Nat) ≠ bd; omega)).trans hc1⟩) | (dsimp only; (first | (go_keep; done) | exact ⟨kx _ _ _ _ u1, kx _ _ _ _ u0⟩ | exact ⟨hc0, hc1⟩ | exact ⟨(World.cell?_setCell_far _ _ _ _ (by show (w.heap.size : Nat) ≠ w.heap.size + 1; omega)).trans hc0, (World.cell?_setCell_far _ _ _ _ (by show (w.heap.size : Nat) ≠ bd; omega)).trans hc1⟩))
           clear hK K hHeld
           have hHeld := hNow
           clear hNow
           try simp only [Act.put, List.setIfInBounds_toArray, List.set_cons_zero, List.set_cons_succ]
           refine wpAnyH_take (i := 9) (v := ?_) rfl (by kernel_rfl) (by kernel_rfl) (by kernel_rfl) (fun _ _ _ h => h) (Or.inl ⟨by rfl, ?_⟩) (by assumption) ?_
           rotate_left
           · intro w hSw; (try dsimp only at hSw); go_simp; (try with_reducible rfl)
           try simp only [Act.put, List.setIfInBounds_toArray, List.set_cons_zero, List.set_cons_succ]
           refine wpAnyH_ready (rs := [10]) (by kernel_rfl) (by simp) ?_
           refine AllReadyH.cons rfl (fun K hK => ?_) AllReadyH.nil
           go_simp
           refine hK.out _ _ ?_ (fun hNow => ?_)
           · first | (first | (go_keep; done) | exact ⟨kx _ _ _ _ u1, kx _ _ _ _ u0⟩ | exact ⟨hc0, hc1⟩ | exact ⟨(World.cell?_setCell_far _ _ _ _ (by show (w.heap.size : Nat) ≠ w.heap.size + 1; omega)).trans hc0, (World.cell?_setCell_far _ _ _ _ (by show (w.heap.size : Nat) ≠ bd; omega)).trans hc1⟩) | (dsimp only; (first | (go_keep; done) | exact ⟨kx _ _ _ _ u1, kx _ _ _ _ u0⟩ | exact ⟨hc0, hc1⟩ | exact ⟨(World.cell?_setCell_far _ _ _ _ (by show (w.heap.size : Nat) ≠ w.heap.size + 1; omega)).trans hc0, (World.cell?_setCell_far _ _ _ _ (by show (w.heap.size : Nat) ≠ bd; omega)).trans hc1⟩))
           clear hK K hHeld
           have hHeld := hNow
           clear hNow
           try simp only [Act.put, List.setIfInBounds_toArray, List.set_cons_zero, List.set_cons_succ]
           refine wpAnyH_done (by kernel_rfl) ?_ _
           refine NoPanic.normal ?_
          all_goals
           have hgX : w'.grownBy w1 (valAt vs (d)).ownBlock := by rw [hv0]; exact grownBy_trans (World.grownBy_alloc w' _ _) ⟨hgrow.os, hgrow.tape, hgrow.output, hgrow.size, hgrow.block⟩
           have hq := tab_more (y := best) hM hnb (by rw [hlen]; omega) hlt2.out hbb.out rfl hown1 hgX (by rw [hv0]; rcases hat with e | e; exact .inl e; exact .inr (by omega))
           have ht := Sea.tbl_more s.days.length (s.vals noms) (j + 1) f2 best (by omega) (by have := hbest.out; subst this; exact vals_next ok noms hd2.out hlt)
           rw [show s.days.length - (j + 1) = d by have := hd2.out; omega] at ht
           rw [ht] at hq
           obtain ⟨hq1, hq2⟩ := hq
           have hbn := (hq2.block bd zb2 (.inr (by simp))).trans hbx2
           have hon := (hq2.block (w.heap.size + 1) zo2 (.inr (by simp))).trans hbo2
           have hBn := hBX.trans (hq2.below hBX.size fun k hk => .inl hk)
           clear hM hq2 hown1 hgrow hgX x1 x2 fx kx hc0 hc1 hcz hfz u0 u1 hbx2 hbo2 hbest
           replace hq1 := Lib.hid hq1
           go_wp2
           exact ⟨⟨f2 + 1, by omega, by go_num, hbn, hq1.out, hon, hBn⟩, by simp [intOf]; omega⟩
        · have hTn : TabAt w.heap.size w.heap.size [bd, w.heap.size + 1] wr (Sea.tbl s.days.length (s.vals noms) (j + 1 + 1) 0) := by
           have := hT.out
           rwa [Sea.tbl_next _ _ (j + 1) f2 (by have := hd2.out; omega) (by rw [Sea.S.vals_length]; omega)] at this
          have hTn2 := (hTn.less (bad' := [w.heap.size + 1]) (by simp)).add (Nat.le_refl _)
          replace hTn2 := Lib.hid hTn2
          clear hT hTn
          have hdw : (0 : Int) ≤ (d : Int) ∧ (d : Int) ≤ 100 := by have := hd2.out; omega
          go_wp2
          have hal : (wr.alloc (.cells #[.int .i64 ((d : Int) - 1)] 3)).heap[wr.heap.size]? = some (.cells #[.int .i64 ((d : Int) - 1)] 3) := World.alloc_heap_new _ _
          have hBa : Below wr.heap.size wr (wr.alloc (.cells #[.int .i64 ((d : Int) - 1)] 3)) := (Below.refl _ _).alloc (Nat.le_refl _) _
          refine ⟨⟨j + 1, wr.heap.size, by have := hd2.out; omega, rfl, by omega, ?_, hTn2.out.mono hBa, block_on hBa hbo, hB.trans (hBa.mono hB.size)⟩, ?_⟩
          · rw [hal, show (d : Int) - 1 = (s.days.length : Int) - 1 - ((j + 1 : Nat) : Int) by have := hd2.out; omega]
          · rw [hMO.out, boxInt_of ((row_cells hal).2.1 0)]; omega
     · have hjn2 : j = s.days.length := by omega
       have hT2 := hT.out
       rw [hjn2, Sea.tbl_whole] at hT2
       obtain ⟨vs, hM, -⟩ := hT2
       have hcell : wr.cell? ⟨bd, 0, none⟩ = some (.int .i64 (-1)) := by rw [x0, hjn2]; congr 2; omega
       clear x0 hbx db fb hjn2
       go_wp2
       go_ret
       exact ⟨w.heap.size, vs, _, rfl, hM, hB⟩
end Go.Proofs.YtpcamocnlnlgiaaGreat.S
