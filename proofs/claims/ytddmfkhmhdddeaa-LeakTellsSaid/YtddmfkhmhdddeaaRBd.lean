/- Walks: the bounds of a guess that agrees, day by day (the reference). -/
import Derived.Test.YtddmfkhmhdddeaaRZo
import Derived.Test.YtddmfkhmhdddeaaSen
set_option linter.unusedVariables false
set_option linter.unusedSimpArgs false
namespace Go.Proofs.Ytddmfkhmhdddeaa
open Go.RowKit Go.Sd Lk
attribute [local go_sem] Oper.semAt_some

structure RbSt (b : Bk) (g : Gs) (w : World) (fv wv rv : Value) (k t : Nat) (bad : List Nat) (W : World) : Prop where
  bk : W.heap[w.heap.size]? = some (bkA fv wv rv)
  gs : W.heap[w.heap.size + 1]? = some (gsO g)
  tab : SpTab (w.heap.size + 2) (w.heap.size + 2) bad W (b.tabT g k t)
  bel : Below w.heap.size w W
  size : w.heap.size + 2 < W.heap.size
section
variable {b : Bk} {g : Gs} {w : World} {fv wv rv : Value} {k t : Nat} {bad : List Nat} {W V : World}
theorem RbSt.mono (h : RbSt b g w fv wv rv k t bad W) (hb : Below W.heap.size W V) : RbSt b g w fv wv rv k t bad V :=
  ⟨kept_block hb h.bk, kept_block hb h.gs, h.tab.mono hb, below_tr h.bel hb, Nat.lt_of_lt_of_le h.size hb.size⟩
theorem RbSt.add (h : RbSt b g w fv wv rv k t bad W) {q : Nat} (hq : W.heap.size ≤ q) : RbSt b g w fv wv rv k t (q :: bad) W := ⟨h.bk, h.gs, h.tab.add hq, h.bel, h.size⟩
theorem RbSt.less1 {p q : Nat} (h : RbSt b g w fv wv rv k t [p, q] W) : RbSt b g w fv wv rv k t [q] W := ⟨h.bk, h.gs, h.tab.less (by simp), h.bel, h.size⟩
theorem RbSt.next {q : Nat} (h : RbSt b g w fv wv rv k b.flows.length [q] W) : RbSt b g w fv wv rv (k + 1) 0 [] W := ⟨h.bk, h.gs, by rw [← tabT_n]; exact h.tab.less (by simp), h.bel, h.size⟩
theorem RbSt.more (h : RbSt b g w fv wv rv k t bad W) (hk : Kept (fun k => k < w.heap.size + 2 ∨ k ∈ bad) W V) {t' : Nat} (hT : SpTab (w.heap.size + 2) (w.heap.size + 2) bad V (b.tabT g k t')) : RbSt b g w fv wv rv k t' bad V := by
  have hs := h.size
  have H : ∀ n o, n < w.heap.size + 2 → W.heap[n]? = some o → V.heap[n]? = some o := fun n o hn ho => (hk.block n (Array.getElem?_eq_some_iff.1 ho).1 (.inl hn)).trans ho
  exact ⟨H _ _ (by omega) h.bk, H _ _ (by omega) h.gs, hT, h.bel.trans (hk.below h.bel.size fun k hk => .inl (by omega)), Nat.lt_of_lt_of_le hs hk.size⟩
end

set_option maxRecDepth 100000 in
set_option maxHeartbeats 8000000 in
theorem refBounds (fv wv rv : Value) (b : Bk) (g : Gs) (w : World) (hb : BookAt w fv wv rv b) (ok : Ok b) (hg : b.gsB g = true) (hag : b.agreeB g = true) :
    Calls Try.prog 24 #[bkV fv wv rv, gsV g] w fun e w' => Below w.heap.size w w' ∧ ∃ v, e = .returned v ∧ SpRowsAt w' v (b.bounds g) := by
  have hb0 := Lib.hid hb
  have hnd := ok.nd
  have hnz := ok.nz
  have hzo : Hid (∀ z, z < b.first.length → b.zoneB g z = true) := Lib.hid (by simpa only [Bk.agreeB, List.all_eq_true, List.mem_range] using hag)
  obtain ⟨fa, fc, rfl, hfm, -⟩ := hb.first.form
  obtain ⟨wa, wc, rfl, hwm, -⟩ := hb.flows.form
  obtain ⟨ra, rc, rfl, hrm, -⟩ := hb.reads.form
  clear hb hag
  obtain ⟨W2, hW2⟩ : ∃ W, (w.alloc (bkA (.slice fa b.first.length fc) (.slice wa b.flows.length wc) (.slice ra b.reads.length rc))).alloc (gsO g) = W := ⟨_, rfl⟩
  obtain ⟨e0, e1, hs2, hB2⟩ := two_new hW2
  obtain ⟨q0, q1, q2⟩ := rc3 e0
  obtain ⟨p0, p1, p2⟩ := rc3 e1
  have z0 := (Array.getElem?_eq_some_iff.1 e0).1
  have z1 := (Array.getElem?_eq_some_iff.1 e1).1
  have hmk := make_rows W2 b.flows.length (by omega)
  rw [hs2] at hmk
  obtain ⟨X, hX⟩ : ∃ X, W2.alloc (.cells (Array.replicate b.flows.length (.slice none 0 0)) 22) = X := ⟨_, rfl⟩
  have hS0 : Hid (RbSt b g w (.slice fa b.first.length fc) (.slice wa b.flows.length wc) (.slice ra b.reads.length rc) 0 0 [] X) := Lib.hid (by
    have hTm := OwnMat.made 22 55 2 spEnc (w.heap.size + 2) b.flows.length W2 (by omega)
    rw [hs2, hX] at hTm
    have hBX : Below W2.heap.size W2 X := by rw [← hX]; exact (Below.refl _ _).alloc (Nat.le_refl _) _
    refine ⟨kept_block hBX e0, kept_block hBX e1, ⟨_, by rw [tabT_0]; exact hTm, fun _ _ k hk => by cases hk⟩, below_tr hB2 hBX, ?_⟩
    rw [← hX, World.size_alloc]; omega)
  clear hs2
  go_enter Try.func24, Try.ntmps24
  go_wp2
  clear hX hmk e0 e1 q0 q1 q2 p0 p1 p2 z0 z1 hW2 hB2
  go_loopw [6] (fun i wr => ∃ k : Nat, k ≤ b.first.length ∧ i = .int .i64 k ∧ Hid (RbSt b g w (.slice fa b.first.length fc) (.slice wa b.flows.length wc) (.slice ra b.reads.length rc) k 0 [] wr)) (fun i _ => b.first.length - (intOf i).toNat)
  case atStart => exact ⟨0, by omega, rfl, hS0.out⟩
  case round =>
    obtain ⟨k, hk, rfl, hS⟩ := hrel
    clear hS0
    obtain ⟨q0, q1, q2⟩ := rc3 hS.out.bk
    obtain ⟨p0, p1, p2⟩ := rc3 hS.out.gs
    have hsz := hS.out.size
    have z0 : w.heap.size < wr.heap.size := by omega
    have z1 : w.heap.size + 1 < wr.heap.size := by omega
    by_cases hlt : k < b.first.length
    · have hki : (k : Int) < (b.first.length : Int) := by omega
      have kZ : Hid (Calls Try.prog 56 #[bkV (.slice fa b.first.length fc) (.slice wa b.flows.length wc) (.slice ra b.reads.length rc), gsV g, .int .i64 k] wr fun e w' => ∃ q cap, e = .returned (.tuple #[.slice (some ⟨q, 0, none⟩) b.flows.length cap, .bool true]) ∧ wr.heap.size ≤ q ∧ BlkIn w' q (b.bndL g k) ∧ Below wr.heap.size wr w') :=
        Lib.hid ((refZone _ _ _ b g k wr (hb0.out.mono hS.out.bel) ok hg hlt).mono (by
          rintro e w' ⟨hB, ⟨-, q, cap, rfl, hq, hbl⟩ | ⟨hx, -⟩⟩
          · exact ⟨q, cap, rfl, hq, hbl, hB⟩
          · rw [hzo.out k hlt] at hx; cases hx))
      go_wp2_with (go_at_call 56; (with_reducible refine Calls.mono kZ.out ?_); rintro e y ⟨q, cap, rfl, hq, hbl, hB2⟩)
      have hS2 := Lib.hid ((hS.out.add hq).mono hB2)
      have hbl0 := Lib.hid hbl
      have hlen2 : Hid (k < b.first.length) := hlt
      have hq2 : Hid (w.heap.size + 2 < q) := Lib.hid (by omega)
      clear q0 q1 q2 p0 p1 p2 hB2 hbl z0 z1 kZ hS hsz hq
      go_loopw [9] (fun i w3 => ∃ t : Nat, t ≤ b.flows.length ∧ i = .int .i64 t ∧ Hid (RbSt b g w (.slice fa b.first.length fc) (.slice wa b.flows.length wc) (.slice ra b.reads.length rc) k t [q] w3 ∧ BlkIn w3 q (b.bndL g k))) (fun i _ => b.flows.length - (intOf i).toNat)
      case atStart => exact ⟨0, by omega, rfl, hS2.out, hbl0.out⟩
      case round =>
        obtain ⟨t, ht, rfl, hH⟩ := hrel
        obtain ⟨hS3, hq4⟩ := hH.out
        clear hH hS2 hbl0
        by_cases htl : t < b.flows.length
        · have hti : (t : Int) < (b.flows.length : Int) := by omega
          obtain ⟨⟨c0, c1⟩, -, -⟩ := hq4.cell (k := t) (by rw [bndL_len]; exact htl)
          rw [show spAt (b.bndL g k) t = b.bnd g k t from spAt_range htl] at c0 c1
          have hzq := hq4.lt
          have hat0 : Hid (((b.tabT g k t).getD t []).length ≤ 1000) := Lib.hid (by rw [tabT_at htl]; simp; have := hlen2.out; omega)
          have hmore := Lib.hid (tabT_more (b := b) (g := g) (k := k) htl)
          have hrl := Lib.hid (tabT_len (b := b) (g := g) (k := k) (t := t))
          have htab := Lib.hid hS3.tab
          have hS4 := Lib.hid hS3
          have hsz := hS3.size
          have hq5 := Lib.hid hq4
          have hqb := hq2.out
          generalize b.bnd g k t = s at *
          generalize b.tabT g k t = rows at *
          clear hS3 hq4
          go_wp2
          obtain ⟨vs, hM, hnb⟩ := htab.out
          have hlt2 : Hid (∀ k, k ∈ [q] → k < wr.heap.size) := Lib.hid (by intro k hk; rw [List.mem_singleton.1 hk]; exact hzq)
          have hbb : Hid (w.heap.size + 2 ∉ [q]) := Lib.hid (by simp; omega)
          clear htab
          obtain ⟨x1, x2⟩ := row_len hM (i := t) (by rw [hrl.out]; exact htl)
          have hown := hM.own (t) (by rw [hrl.out]; exact htl)
          have hne := hM.ne (t) (by rw [hrl.out]; exact htl)
          have hnb2 := hnb (t) (by rw [hrl.out]; exact htl)
          obtain ⟨i0, hi0, hz0, hz1, hz2⟩ := info_parts infoSp
          have hL : ((rows).getD (t) []).length ≤ 1000 := hat0.out
          obtain ⟨v0, hv0⟩ : ∃ v0, valAt vs (t) = v0 := ⟨_, rfl⟩
          rw [hv0] at x1 hown hne hnb2
          have hlow : ∀ k, k < (w.heap.size+2) → v0.ownBlock ≠ some k := fun k hk e => by have := (hown.lt k e).1; omega
          have al0 : v0.ownBlock ≠ some (q) := hnb2 _ (by simp)
          have al1 : v0.ownBlock ≠ some (q) := hnb2 _ (by simp)
          have kx : ∀ (o : Obj) (b off : Nat) (v : Value), wr.cell? ⟨b, off, none⟩ = some v → (wr.alloc o).drew.cell? ⟨b, off, none⟩ = some v := fun o b off v h => kept_cell (((Below.refl _ _).alloc (Nat.le_refl _) o).drew) h
          have fx : ∀ (o : Obj), (wr.alloc o).drew.frozen? ⟨(w.heap.size+2), t, none⟩ = false := fun o => ((((Below.refl wr.heap.size wr).alloc (Nat.le_refl _) o).drew).frozen (p := ⟨(w.heap.size+2), t, none⟩) (World.block_lt_of_cell? _ ⟨_, _, none⟩ x1)).trans x2
          have hl1 : ((rows).getD (t) []).length + 1 ≤ maxLen := by unfold maxLen; omega
          have hl2 : (((rows).getD (t) []).length + 1) * 16 ≤ 140737488355328 := by omega
          have hbl : (w.heap.size+2) < wr.heap.size := World.block_lt_of_cell? _ ⟨_, _, none⟩ x1
          have zl0 : q < wr.heap.size := World.block_lt_of_cell? _ ⟨_, _, none⟩ c0
          have zl1 : q < wr.heap.size := World.block_lt_of_cell? _ ⟨_, _, none⟩ c1
          refine wp_region_noPanic ?_
          refine wp_region_held_drew (S := (fun w' => w'.cell? ⟨q, t * 2, none⟩ = some (.int .i64 s.lo) ∧ w'.cell? ⟨q, t * 2 + 1, none⟩ = some (.int .i64 s.hi))) (by kernel_rfl) ?_ (fun hHeld => ?_)
          · first | (first | (go_keep; done) | exact ⟨kx _ _ _ _ c0, kx _ _ _ _ c1⟩ | exact ⟨hc0, hc1⟩ | exact ⟨(World.cell?_setCell_far _ _ _ _ (by show ((w.heap.size+2) : Nat) ≠ q; omega)).trans hc0, (World.cell?_setCell_far _ _ _ _ (by show ((w.heap.size+2) : Nat) ≠ q; omega)).trans hc1⟩) | (dsimp only; (first | (go_keep; done) | exact ⟨kx _ _ _ _ c0, kx _ _ _ _ c1⟩ | exact ⟨hc0, hc1⟩ | exact ⟨(World.cell?_setCell_far _ _ _ _ (by show ((w.heap.size+2) : Nat) ≠ q; omega)).trans hc0, (World.cell?_setCell_far _ _ _ _ (by show ((w.heap.size+2) : Nat) ≠ q; omega)).trans hc1⟩))
          refine wpAnyH_take (i := 0) (v := ?_) rfl (by kernel_rfl) (by kernel_rfl) (by kernel_rfl) (fun _ _ _ h => h) (Or.inl ⟨by rfl, ?_⟩) (by assumption) ?_
          rotate_left
          · intro w hSw; (try dsimp only at hSw); go_simp; (try with_reducible rfl)
          try simp only [Act.put, List.setIfInBounds_toArray, List.set_cons_zero, List.set_cons_succ]
          refine wpAnyH_take (i := 1) (v := ?_) rfl (by kernel_rfl) (by kernel_rfl) (by kernel_rfl) (fun _ _ _ h => h) (Or.inl ⟨by rfl, ?_⟩) (by assumption) ?_
          rotate_left
          · intro w hSw; (try dsimp only at hSw); go_simp; (try with_reducible rfl)
          try simp only [Act.put, List.setIfInBounds_toArray, List.set_cons_zero, List.set_cons_succ]
          refine wpAnyH_take (i := 2) (v := ?_) rfl (by kernel_rfl) (by kernel_rfl) (by kernel_rfl) (fun _ _ _ h => h) (Or.inl ⟨by rfl, ?_⟩) (by assumption) ?_
          rotate_left
          · intro w hSw; (try dsimp only at hSw); go_simp; (try with_reducible rfl)
          try simp only [Act.put, List.setIfInBounds_toArray, List.set_cons_zero, List.set_cons_succ]
          refine wpAnyH_take (i := 3) (v := ?_) rfl (by kernel_rfl) (by kernel_rfl) (by kernel_rfl) (fun _ _ _ h => h) (Or.inl ⟨by rfl, ?_⟩) (by assumption) ?_
          rotate_left
          · intro w hSw; (try dsimp only at hSw); go_simp; (try with_reducible rfl)
          try simp only [Act.put, List.setIfInBounds_toArray, List.set_cons_zero, List.set_cons_succ]
          refine wpAnyH_take (i := 4) (v := ?_) rfl (by kernel_rfl) (by kernel_rfl) (by kernel_rfl) (fun _ _ _ h => h) (Or.inl ⟨by rfl, ?_⟩) (by assumption) ?_
          rotate_left
          · intro w hSw; (try dsimp only at hSw); go_simp; (try with_reducible rfl)
          try simp only [Act.put, List.setIfInBounds_toArray, List.set_cons_zero, List.set_cons_succ]
          refine wpAnyH_take (i := 6) (v := ?_) rfl (by kernel_rfl) (by kernel_rfl) (by kernel_rfl) (fun _ _ _ h => h) (Or.inl ⟨by rfl, ?_⟩) (by assumption) ?_
          rotate_left
          · intro w hSw; (try dsimp only at hSw); go_simp; (try with_reducible rfl)
          try simp only [Act.put, List.setIfInBounds_toArray, List.set_cons_zero, List.set_cons_succ]
          refine wpAnyH_take (i := 7) (v := ?_) rfl (by kernel_rfl) (by kernel_rfl) (by kernel_rfl) (fun _ _ _ h => h) (Or.inl ⟨by rfl, ?_⟩) (by assumption) ?_
          rotate_left
          · intro w hSw; (try dsimp only at hSw); go_simp; (try with_reducible rfl)
          try simp only [Act.put, List.setIfInBounds_toArray, List.set_cons_zero, List.set_cons_succ]
          refine wpAnyH_take (i := 8) (v := ?_) rfl (by kernel_rfl) (by kernel_rfl) (by kernel_rfl) (fun _ _ _ h => h) (Or.inl ⟨by rfl, ?_⟩) (by assumption) ?_
          rotate_left
          · intro w hSw; (try dsimp only at hSw); go_simp; (try with_reducible rfl)
          try simp only [Act.put, List.setIfInBounds_toArray, List.set_cons_zero, List.set_cons_succ]
          refine wpAnyH_take (i := 9) (v := ?_) rfl (by kernel_rfl) (by kernel_rfl) (by kernel_rfl) (fun _ _ _ h => h) (Or.inl ⟨by rfl, ?_⟩) (by assumption) ?_
          rotate_left
          · intro w hSw; (try dsimp only at hSw); go_simp; (try with_reducible rfl)
          try simp only [Act.put, List.setIfInBounds_toArray, List.set_cons_zero, List.set_cons_succ]
          refine wpAnyH_ready (rs := [5, 10]) (by kernel_rfl) (by simp) ?_
          refine AllReadyH.cons rfl (fun K hK => ?wayA8928) (AllReadyH.cons rfl (fun K hK => ?wayB8928) AllReadyH.nil)
          case' wayA8928 =>
            go_simp
            refine hK.out _ _ ?_ (fun hNow => ?_)
            · first | (first | (go_keep; done) | exact ⟨kx _ _ _ _ c0, kx _ _ _ _ c1⟩ | exact ⟨hc0, hc1⟩ | exact ⟨(World.cell?_setCell_far _ _ _ _ (by show ((w.heap.size+2) : Nat) ≠ q; omega)).trans hc0, (World.cell?_setCell_far _ _ _ _ (by show ((w.heap.size+2) : Nat) ≠ q; omega)).trans hc1⟩) | (dsimp only; (first | (go_keep; done) | exact ⟨kx _ _ _ _ c0, kx _ _ _ _ c1⟩ | exact ⟨hc0, hc1⟩ | exact ⟨(World.cell?_setCell_far _ _ _ _ (by show ((w.heap.size+2) : Nat) ≠ q; omega)).trans hc0, (World.cell?_setCell_far _ _ _ _ (by show ((w.heap.size+2) : Nat) ≠ q; omega)).trans hc1⟩))
            clear hK K hHeld
            have hHeld := hNow
            clear hNow
            try simp only [Act.put, List.setIfInBounds_toArray, List.set_cons_zero, List.set_cons_succ]
            refine wpAnyH_ready (rs := [10]) (by kernel_rfl) (by simp) ?_
            refine AllReadyH.cons rfl (fun K hK => ?_) AllReadyH.nil
            go_simp
            refine hK.out _ _ ?_ (fun hNow => ?_)
            · first | (first | (go_keep; done) | exact ⟨kx _ _ _ _ c0, kx _ _ _ _ c1⟩ | exact ⟨hc0, hc1⟩ | exact ⟨(World.cell?_setCell_far _ _ _ _ (by show ((w.heap.size+2) : Nat) ≠ q; omega)).trans hc0, (World.cell?_setCell_far _ _ _ _ (by show ((w.heap.size+2) : Nat) ≠ q; omega)).trans hc1⟩) | (dsimp only; (first | (go_keep; done) | exact ⟨kx _ _ _ _ c0, kx _ _ _ _ c1⟩ | exact ⟨hc0, hc1⟩ | exact ⟨(World.cell?_setCell_far _ _ _ _ (by show ((w.heap.size+2) : Nat) ≠ q; omega)).trans hc0, (World.cell?_setCell_far _ _ _ _ (by show ((w.heap.size+2) : Nat) ≠ q; omega)).trans hc1⟩))
            clear hK K hHeld
            have hHeld := hNow
            clear hNow
            try simp only [Act.put, List.setIfInBounds_toArray, List.set_cons_zero, List.set_cons_succ]
            refine wpAnyH_ready (rs := [11]) (by kernel_rfl) (by simp) ?_
            refine AllReadyH.cons rfl (fun K hK => ?_) AllReadyH.nil
            ((refine step_append_lies _ (by rfl) _ _ _ (by rfl) (w.heap.size+2) 55 i0 _ 2 16 Try.underlying22 hi0 hz0 hz1 hz2 rfl (by decide) v0 _ _ (by rfl) ((World.ownsRow.alloc hown _).drew) ⟨wr.heap.size, 0, none⟩ 1 1 [.int .i64 s.lo, .int .i64 s.hi] (by rfl) (by rfl) (World.news_of_block (cs := #[.int .i64 s.lo, .int .i64 s.hi]) (t := 55) (fr := (0, 0)) (heap_alloc_new wr _)) (by simp [Value.oneCell']) (by decide) hl1 hl2 (by simp; omega) (wr.heap.size + 1) (by simp) ?_; intro gg gcap w1 hown1 hgrow hat hglt; have hc0 := (hgrow.cell_far _ (by simp; omega) (Ne.symm al0)).trans (kx _ _ _ _ c0); have hc1 := (hgrow.cell_far _ (by simp; omega) (Ne.symm al1)).trans (kx _ _ _ _ c1); have hcz : w1.cell? ⟨(w.heap.size+2), t, none⟩ = some v0 := (hgrow.cell_far _ (by simp; omega) (Ne.symm hne)).trans (kx _ _ _ _ x1); have hfz : w1.frozen? ⟨(w.heap.size+2), t, none⟩ = false := (hgrow.frozen_far _ (by simp; omega) (Ne.symm hne)).trans (fx _)))
            refine hK.out _ _ ?_ (fun hNow => ?_)
            · first | (first | (go_keep; done) | exact ⟨kx _ _ _ _ c0, kx _ _ _ _ c1⟩ | exact ⟨hc0, hc1⟩ | exact ⟨(World.cell?_setCell_far _ _ _ _ (by show ((w.heap.size+2) : Nat) ≠ q; omega)).trans hc0, (World.cell?_setCell_far _ _ _ _ (by show ((w.heap.size+2) : Nat) ≠ q; omega)).trans hc1⟩) | (dsimp only; (first | (go_keep; done) | exact ⟨kx _ _ _ _ c0, kx _ _ _ _ c1⟩ | exact ⟨hc0, hc1⟩ | exact ⟨(World.cell?_setCell_far _ _ _ _ (by show ((w.heap.size+2) : Nat) ≠ q; omega)).trans hc0, (World.cell?_setCell_far _ _ _ _ (by show ((w.heap.size+2) : Nat) ≠ q; omega)).trans hc1⟩))
            clear hK K hHeld
            have hHeld := hNow
            clear hNow
            try simp only [Act.put, List.setIfInBounds_toArray, List.set_cons_zero, List.set_cons_succ]
            refine wpAnyH_take (i := 12) (v := ?_) rfl (by kernel_rfl) (by kernel_rfl) (by kernel_rfl) (fun _ _ _ h => h) (Or.inl ⟨by rfl, ?_⟩) (by assumption) ?_
            rotate_left
            · intro w hSw; (try dsimp only at hSw); go_simp; (try with_reducible rfl)
            try simp only [Act.put, List.setIfInBounds_toArray, List.set_cons_zero, List.set_cons_succ]
            refine wpAnyH_ready (rs := [13]) (by kernel_rfl) (by simp) ?_
            refine AllReadyH.cons rfl (fun K hK => ?_) AllReadyH.nil
            go_simp
            refine hK.out _ _ ?_ (fun hNow => ?_)
            · first | (first | (go_keep; done) | exact ⟨kx _ _ _ _ c0, kx _ _ _ _ c1⟩ | exact ⟨hc0, hc1⟩ | exact ⟨(World.cell?_setCell_far _ _ _ _ (by show ((w.heap.size+2) : Nat) ≠ q; omega)).trans hc0, (World.cell?_setCell_far _ _ _ _ (by show ((w.heap.size+2) : Nat) ≠ q; omega)).trans hc1⟩) | (dsimp only; (first | (go_keep; done) | exact ⟨kx _ _ _ _ c0, kx _ _ _ _ c1⟩ | exact ⟨hc0, hc1⟩ | exact ⟨(World.cell?_setCell_far _ _ _ _ (by show ((w.heap.size+2) : Nat) ≠ q; omega)).trans hc0, (World.cell?_setCell_far _ _ _ _ (by show ((w.heap.size+2) : Nat) ≠ q; omega)).trans hc1⟩))
            clear hK K hHeld
            have hHeld := hNow
            clear hNow
            try simp only [Act.put, List.setIfInBounds_toArray, List.set_cons_zero, List.set_cons_succ]
            refine wpAnyH_done (by kernel_rfl) ?_ _
            refine NoPanic.normal ?_
          case' wayB8928 =>
            go_simp
            refine hK.out _ _ ?_ (fun hNow => ?_)
            · first | (first | (go_keep; done) | exact ⟨kx _ _ _ _ c0, kx _ _ _ _ c1⟩ | exact ⟨hc0, hc1⟩ | exact ⟨(World.cell?_setCell_far _ _ _ _ (by show ((w.heap.size+2) : Nat) ≠ q; omega)).trans hc0, (World.cell?_setCell_far _ _ _ _ (by show ((w.heap.size+2) : Nat) ≠ q; omega)).trans hc1⟩) | (dsimp only; (first | (go_keep; done) | exact ⟨kx _ _ _ _ c0, kx _ _ _ _ c1⟩ | exact ⟨hc0, hc1⟩ | exact ⟨(World.cell?_setCell_far _ _ _ _ (by show ((w.heap.size+2) : Nat) ≠ q; omega)).trans hc0, (World.cell?_setCell_far _ _ _ _ (by show ((w.heap.size+2) : Nat) ≠ q; omega)).trans hc1⟩))
            clear hK K hHeld
            have hHeld := hNow
            clear hNow
            try simp only [Act.put, List.setIfInBounds_toArray, List.set_cons_zero, List.set_cons_succ]
            refine wpAnyH_ready (rs := [5]) (by kernel_rfl) (by simp) ?_
            refine AllReadyH.cons rfl (fun K hK => ?_) AllReadyH.nil
            go_simp
            refine hK.out _ _ ?_ (fun hNow => ?_)
            · first | (first | (go_keep; done) | exact ⟨kx _ _ _ _ c0, kx _ _ _ _ c1⟩ | exact ⟨hc0, hc1⟩ | exact ⟨(World.cell?_setCell_far _ _ _ _ (by show ((w.heap.size+2) : Nat) ≠ q; omega)).trans hc0, (World.cell?_setCell_far _ _ _ _ (by show ((w.heap.size+2) : Nat) ≠ q; omega)).trans hc1⟩) | (dsimp only; (first | (go_keep; done) | exact ⟨kx _ _ _ _ c0, kx _ _ _ _ c1⟩ | exact ⟨hc0, hc1⟩ | exact ⟨(World.cell?_setCell_far _ _ _ _ (by show ((w.heap.size+2) : Nat) ≠ q; omega)).trans hc0, (World.cell?_setCell_far _ _ _ _ (by show ((w.heap.size+2) : Nat) ≠ q; omega)).trans hc1⟩))
            clear hK K hHeld
            have hHeld := hNow
            clear hNow
            try simp only [Act.put, List.setIfInBounds_toArray, List.set_cons_zero, List.set_cons_succ]
            refine wpAnyH_ready (rs := [11]) (by kernel_rfl) (by simp) ?_
            refine AllReadyH.cons rfl (fun K hK => ?_) AllReadyH.nil
            ((refine step_append_lies _ (by rfl) _ _ _ (by rfl) (w.heap.size+2) 55 i0 _ 2 16 Try.underlying22 hi0 hz0 hz1 hz2 rfl (by decide) v0 _ _ (by rfl) ((World.ownsRow.alloc hown _).drew) ⟨wr.heap.size, 0, none⟩ 1 1 [.int .i64 s.lo, .int .i64 s.hi] (by rfl) (by rfl) (World.news_of_block (cs := #[.int .i64 s.lo, .int .i64 s.hi]) (t := 55) (fr := (0, 0)) (heap_alloc_new wr _)) (by simp [Value.oneCell']) (by decide) hl1 hl2 (by simp; omega) (wr.heap.size + 1) (by simp) ?_; intro gg gcap w1 hown1 hgrow hat hglt; have hc0 := (hgrow.cell_far _ (by simp; omega) (Ne.symm al0)).trans (kx _ _ _ _ c0); have hc1 := (hgrow.cell_far _ (by simp; omega) (Ne.symm al1)).trans (kx _ _ _ _ c1); have hcz : w1.cell? ⟨(w.heap.size+2), t, none⟩ = some v0 := (hgrow.cell_far _ (by simp; omega) (Ne.symm hne)).trans (kx _ _ _ _ x1); have hfz : w1.frozen? ⟨(w.heap.size+2), t, none⟩ = false := (hgrow.frozen_far _ (by simp; omega) (Ne.symm hne)).trans (fx _)))
            refine hK.out _ _ ?_ (fun hNow => ?_)
            · first | (first | (go_keep; done) | exact ⟨kx _ _ _ _ c0, kx _ _ _ _ c1⟩ | exact ⟨hc0, hc1⟩ | exact ⟨(World.cell?_setCell_far _ _ _ _ (by show ((w.heap.size+2) : Nat) ≠ q; omega)).trans hc0, (World.cell?_setCell_far _ _ _ _ (by show ((w.heap.size+2) : Nat) ≠ q; omega)).trans hc1⟩) | (dsimp only; (first | (go_keep; done) | exact ⟨kx _ _ _ _ c0, kx _ _ _ _ c1⟩ | exact ⟨hc0, hc1⟩ | exact ⟨(World.cell?_setCell_far _ _ _ _ (by show ((w.heap.size+2) : Nat) ≠ q; omega)).trans hc0, (World.cell?_setCell_far _ _ _ _ (by show ((w.heap.size+2) : Nat) ≠ q; omega)).trans hc1⟩))
            clear hK K hHeld
            have hHeld := hNow
            clear hNow
            try simp only [Act.put, List.setIfInBounds_toArray, List.set_cons_zero, List.set_cons_succ]
            refine wpAnyH_take (i := 12) (v := ?_) rfl (by kernel_rfl) (by kernel_rfl) (by kernel_rfl) (fun _ _ _ h => h) (Or.inl ⟨by rfl, ?_⟩) (by assumption) ?_
            rotate_left
            · intro w hSw; (try dsimp only at hSw); go_simp; (try with_reducible rfl)
            try simp only [Act.put, List.setIfInBounds_toArray, List.set_cons_zero, List.set_cons_succ]
            refine wpAnyH_ready (rs := [13]) (by kernel_rfl) (by simp) ?_
            refine AllReadyH.cons rfl (fun K hK => ?_) AllReadyH.nil
            go_simp
            refine hK.out _ _ ?_ (fun hNow => ?_)
            · first | (first | (go_keep; done) | exact ⟨kx _ _ _ _ c0, kx _ _ _ _ c1⟩ | exact ⟨hc0, hc1⟩ | exact ⟨(World.cell?_setCell_far _ _ _ _ (by show ((w.heap.size+2) : Nat) ≠ q; omega)).trans hc0, (World.cell?_setCell_far _ _ _ _ (by show ((w.heap.size+2) : Nat) ≠ q; omega)).trans hc1⟩) | (dsimp only; (first | (go_keep; done) | exact ⟨kx _ _ _ _ c0, kx _ _ _ _ c1⟩ | exact ⟨hc0, hc1⟩ | exact ⟨(World.cell?_setCell_far _ _ _ _ (by show ((w.heap.size+2) : Nat) ≠ q; omega)).trans hc0, (World.cell?_setCell_far _ _ _ _ (by show ((w.heap.size+2) : Nat) ≠ q; omega)).trans hc1⟩))
            clear hK K hHeld
            have hHeld := hNow
            clear hNow
            try simp only [Act.put, List.setIfInBounds_toArray, List.set_cons_zero, List.set_cons_succ]
            refine wpAnyH_done (by kernel_rfl) ?_ _
            refine NoPanic.normal ?_
          all_goals
            have hgX : wr.grownBy w1 (valAt vs (t)).ownBlock := by rw [hv0]; exact grownBy_trans (World.grownBy_alloc wr _ _) ⟨hgrow.os, hgrow.tape, hgrow.output, hgrow.size, hgrow.block⟩
            have hq := tab_more (y := s) hM hnb (by rw [hrl.out]; exact htl) hlt2.out hbb.out rfl hown1 hgX (by rw [hv0]; rcases hat with e | e; exact .inl e; exact .inr (by omega))
            rw [hmore.out] at hq
            obtain ⟨hq1, hq3⟩ := hq
            have hS5 := Lib.hid (hS4.out.more hq3 hq1)
            have hq6 := Lib.hid (hq5.out.same (hq3.block q hq5.out.lt (.inr (by simp))))
            clear hM hq1 hq3 hown1 hgrow hgX x1 x2 fx kx hc0 hc1 hcz hfz c0 c1 hS4 hq5 hnb hat hglt hown hne hnb2 hlow al0 al1 zl0 zl1 hl1 hl2 hbl hL
            go_wp2
            exact ⟨⟨t + 1, by omega, by go_num, hS5.out, hq6.out⟩, by simp [intOf]; omega⟩
        · obtain rfl : t = b.flows.length := by omega
          have hS6 := Lib.hid hS3.next
          have hll : Hid ((b.bndL g k).length = b.flows.length) := Lib.hid bndL_len
          clear hS3 hq4
          go_wp2
          exact ⟨⟨k + 1, by omega, by go_num, hS6.out⟩, by simp [intOf]; omega⟩
    · obtain rfl : k = b.first.length := by omega
      have hfin : Hid (∃ a cap, SpRowsAt wr (.slice (some ⟨w.heap.size + 2, 0, none⟩) b.flows.length cap) (b.bounds g) ∧ a = cap) := Lib.hid (by
        obtain ⟨vs, hM, -⟩ := hS.out.tab
        have h1 := hM.at spEnc_len ⟨0, 0⟩ (by rw [tabT_len]; unfold maxLen; omega) b.flows.length
        rw [tabT_len, tabT_all] at h1
        exact ⟨_, _, h1, rfl⟩)
      have hrows : Hid (SpRowsAt wr (.slice (some ⟨w.heap.size + 2, 0, none⟩) b.flows.length b.flows.length) (b.bounds g)) := Lib.hid (by
        obtain ⟨vs, hM, -⟩ := hS.out.tab
        have h1 := hM.at spEnc_len ⟨0, 0⟩ (by rw [tabT_len]; unfold maxLen; omega) b.flows.length
        rw [tabT_len, tabT_all] at h1
        exact h1)
      clear hfin
      go_wp2
      go_ret
      exact ⟨hS.out.bel, _, rfl, hrows.out⟩
end Go.Proofs.Ytddmfkhmhdddeaa
