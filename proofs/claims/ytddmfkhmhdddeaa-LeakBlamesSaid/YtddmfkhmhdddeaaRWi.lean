/- Walks: a book without some readings (the reference). -/
import Derived.Test.YtddmfkhmhdddeaaBlr
import Derived.Test.YtddmfkhmhdddeaaApm
import Derived.Test.YtddmfkhmhdddeaaLoc
import Derived.Deep.Cut
set_option linter.unusedVariables false
set_option linter.unusedSimpArgs false
namespace Lk
/-- Which indexes a list of numbers names. -/
def hasI (l : List Int) (k : Nat) : Bool := l.contains (k : Int)
def Bk.withTo (b : Bk) (l : List Int) (i : Nat) : List Rd := ((List.range i).filter fun k => !hasI l k).map (rdAt b.reads)
theorem withTo_yes {b : Bk} {l : List Int} {i : Nat} (h : hasI l i = true) : b.withTo l (i + 1) = b.withTo l i := by
  unfold Bk.withTo; rw [List.range_succ, List.filter_append]; simp [h]
theorem withTo_no {b : Bk} {l : List Int} {i : Nat} (h : hasI l i = false) : b.withTo l (i + 1) = b.withTo l i ++ [rdAt b.reads i] := by
  unfold Bk.withTo; rw [List.range_succ, List.filter_append]; simp [h]
theorem withTo_all {b : Bk} {l : List Int} : b.withTo l b.reads.length = (b.without (hasI l)).reads := rfl
theorem withTo_len {b : Bk} {l : List Int} {i : Nat} : (b.withTo l i).length ≤ i := by
  unfold Bk.withTo
  have := List.length_filter_le (fun k => !hasI l k) (List.range i)
  simpa using this
def hasTo (l : List Int) (i j : Nat) : Bool := (l.take j).contains (i : Int)
theorem hasTo_succ {l : List Int} {i j : Nat} (h : j < l.length) : hasTo l i (j + 1) = (hasTo l i j || (at0 l j == (i : Int))) := by
  have e : at0 l j = l[j] := by simp [at0, h]
  unfold hasTo
  rw [List.take_succ_eq_append_getElem h, e, Bool.eq_iff_iff]
  simp only [List.contains_iff_mem, List.mem_append, List.mem_singleton, Bool.or_eq_true, beq_iff_eq]
  constructor
  · rintro (h1 | h1)
    · exact .inl h1
    · exact .inr h1.symm
  · rintro (h1 | h1)
    · exact .inl h1
    · exact .inr h1.symm
theorem hasTo_all {l : List Int} {i : Nat} : hasTo l i l.length = hasI l i := by unfold hasTo hasI; rw [List.take_length]
end Lk
namespace Go.Proofs.Ytddmfkhmhdddeaa
open Go.RowKit Go.Sd Lk

/-- What stands in the rounds. -/
structure WiSt (W2 : World) (fv wv : Value) (L : List Rd) (v : Value) (X : World) : Prop where
  out : X.heap[W2.heap.size]? = some (bkA fv wv v)
  own : OwnRds (W2.heap.size + 1) X v L
  bel : Below W2.heap.size W2 X
  size : W2.heap.size + 1 ≤ X.heap.size

set_option maxRecDepth 100000 in
set_option maxHeartbeats 4000000 in
theorem refWithout (fv wv rv lv : Value) (b : Bk) (l : List Int) (w : World) (hb : BookAt w fv wv rv b) (hl : IntsAt w lv l) (hn : b.reads.length ≤ 1000) :
    Calls Try.prog 41 #[bkV fv wv rv, lv] w fun e w' => ∃ v, e = .returned (bkV fv wv v) ∧ Below w.heap.size w w' ∧ BookAt w' fv wv v (b.without (hasI l)) := by
  obtain ⟨W1, hW1⟩ : ∃ W1, w.alloc (bkA fv wv rv) = W1 := ⟨_, rfl⟩
  obtain ⟨W2, hW2⟩ : ∃ W2, W1.alloc (bkA (.slice none 0 0) (.slice none 0 0) (.slice none 0 0)) = W2 := ⟨_, rfl⟩
  obtain ⟨e0, b0, s0⟩ := boxed hW1
  obtain ⟨e1, b1, s1⟩ := boxed hW2
  obtain ⟨fa, fc, rfl, hfm, -⟩ := hb.first.form
  obtain ⟨wa, ww, rfl, hwm, -⟩ := hb.flows.form
  obtain ⟨ra, rc, rfl, hrm, -⟩ := hb.reads.form
  obtain ⟨la, lc, rfl, hlm, -⟩ := hl.form
  obtain ⟨W3, hW3⟩ : ∃ W3, W2.alloc (bkA (.slice fa b.first.length fc) (.slice wa b.flows.length ww) (.slice none 0 0)) = W3 := ⟨_, rfl⟩
  obtain ⟨e2, b2, s2⟩ := boxed hW3
  have hlt0 : Hid (w.heap.size < W2.heap.size) := Lib.hid (by omega)
  have hlt1 : Hid (W1.heap.size < W2.heap.size) := Lib.hid (by omega)
  have hlt2 : Hid (w.heap.size ≤ W1.heap.size) := Lib.hid (by omega)
  have B2 := below_tr b0 b1
  have hE0 := Lib.hid (kept_block b1 e0)
  have hE1 := Lib.hid e1
  have hB2 := Lib.hid B2
  have hb2 := Lib.hid (hb.mono B2)
  have hl2 := Lib.hid (hl.mono B2)
  have hS0 : Hid (WiSt W2 (.slice fa b.first.length fc) (.slice wa b.flows.length ww) (b.withTo l 0) (.slice none 0 0) W3) := Lib.hid ⟨e2, OwnSt.nil _ _ _ _ _, b2, by omega⟩
  obtain ⟨q0, q1, q2⟩ := rc3 hE0.out
  have z0 := (Array.getElem?_eq_some_iff.1 hE0.out).1
  have hbh := Lib.hid hb
  replace hW3 := Lib.hid hW3
  clear hb hl s0 s1 s2 e0 e1 e2 b0 b1 b2 B2
  go_enter Try.func41, Try.ntmps41
  go_upto_region 2 with fail
  rw [hW3.out]
  clear q0 q1 q2 z0 hW1 hW2 hW3
  go_wp2_with fail
  go_loopw [6] (fun i wr => ∃ (k : Nat) (v : Value), k ≤ b.reads.length ∧ i = .int .i64 k ∧ Hid (WiSt W2 (.slice fa b.first.length fc) (.slice wa b.flows.length ww) (b.withTo l k) v wr)) (fun i _ => b.reads.length - (intOf i).toNat)
  case atStart => exact ⟨0, _, by omega, rfl, hS0.out⟩
  case round =>
    obtain ⟨k, v, hk, rfl, hG⟩ := hrel
    clear hS0
    have hG0 := hG.out
    obtain ⟨va, vc, rfl⟩ := hG0.own.slice
    have hC0 := kept_block hG0.bel hE0.out
    obtain ⟨q0, q1, q2⟩ := rc3 hC0
    obtain ⟨o0, o1, o2⟩ := rc3 hG0.out
    have z0 := (Array.getElem?_eq_some_iff.1 hC0).1
    have zo := (Array.getElem?_eq_some_iff.1 hG0.out).1
    by_cases hkl : k < b.reads.length
    · have hki : (k : Int) < (b.reads.length : Int) := by omega
      obtain ⟨S, hS⟩ : ∃ S : World, wr = S := ⟨_, rfl⟩
      subst hS
      clear hC0 hG0
      go_wp2_with fail
      go_loopw [7, 8] (fun th i wr' => wr' = wr ∧ ∃ (j : Nat) (t : Bool), j ≤ l.length ∧ th = .bool t ∧ i = .int .i64 j ∧ Hid (t = hasTo l k j)) (fun _ i _ => l.length - (intOf i).toNat)
      case atStart => exact ⟨rfl, 0, false, by omega, rfl, rfl, Lib.hid (by simp [hasTo])⟩
      case round =>
        obtain ⟨rfl, j, t, hj, rfl, rfl, hT⟩ := hrel
        by_cases hjl : j < l.length
        · have hji : (j : Int) < (l.length : Int) := by omega
          obtain ⟨c1, p1, d1, hw1, hcl1, -, x0⟩ := int_cells ((hl2.out.mono hG.out.bel)) (k := j) hjl
          obtain ⟨rfl, rfl⟩ : la = some ⟨c1, p1, none⟩ ∧ lc = d1 := by simpa using hw1
          have hnx := Lib.hid (hasTo_succ (l := l) (i := k) hjl)
          clear hw1
          generalize at0 l j = m at *
          cases t
          · by_cases hm : m = (k : Int)
            · subst hm
              go_wp2_with fail
              exact ⟨⟨trivial, j + 1, true, by omega, rfl, by go_num, Lib.hid (by rw [hnx.out]; simp)⟩, by simp [intOf]; omega⟩
            · have hmb : (m == (k : Int)) = false := by simpa using hm
              go_wp2_with fail
              exact ⟨⟨trivial, j + 1, false, by omega, rfl, by go_num, Lib.hid (by rw [hnx.out, ← hT.out]; simpa using hm)⟩, by simp [intOf]; omega⟩
          · go_wp2_with fail
            exact ⟨⟨trivial, j + 1, true, by omega, rfl, by go_num, Lib.hid (by rw [hnx.out, ← hT.out]; simp)⟩, by simp [intOf]; omega⟩
        · obtain rfl : j = l.length := by omega
          have hT2 := Lib.hid (hT.out.trans hasTo_all)
          clear hT
          cases t
          · have hnx := Lib.hid (withTo_no (b := b) hT2.out.symm)
            have hln := withTo_len (b := b) (l := l) (i := k)
            obtain ⟨rb, off, d2, hv2, hrb, -, y0, y1, y2, y3⟩ := rd_cells hb2.out.reads (k := k) hkl
            obtain ⟨rfl, rfl⟩ : ra = some ⟨rb, off, none⟩ ∧ rc = d2 := by simpa using hv2
            generalize rdAt b.reads k = r at *
            have hG1 := hG.out
            have hBd : Below W2.heap.size W2 wr.drew := hG1.bel.drew
            have hBa : ∀ o, Below W2.heap.size W2 (wr.drew.alloc o) := fun o => hBd.alloc hBd.size o
            have kS : ∀ Y, Below W2.heap.size W2 Y → Y.cell? ⟨w.heap.size, 2, none⟩ = some (.slice (some ⟨rb, off, none⟩) b.reads.length rc) ∧ Y.cell? ⟨rb, off + k * 4, none⟩ = some (.int .i64 r.day) ∧ Y.cell? ⟨rb, off + k * 4 + 1, none⟩ = some (.int .i64 r.zone) ∧ Y.cell? ⟨rb, off + k * 4 + 2, none⟩ = some (.int .i64 r.v.lo) ∧ Y.cell? ⟨rb, off + k * 4 + 3, none⟩ = some (.int .i64 r.v.hi) := fun Y h => by
              obtain ⟨-, -, a⟩ := rc3 (kept_block h hE0.out)
              exact ⟨a, kept_cell h y0, kept_cell h y1, kept_cell h y2, kept_cell h y3⟩
            have hwa : ∀ o, Below wr.heap.size wr (wr.drew.alloc o) := fun o => ((Below.refl _ _).drew).alloc (Nat.le_refl _) o
            have hd2 : wr.drew.cell? ⟨W2.heap.size, 2, none⟩ = some (.slice va (b.withTo l k).length vc) := o2
            have ha2 : ∀ o, (wr.drew.alloc o).cell? ⟨W2.heap.size, 2, none⟩ = some (.slice va (b.withTo l k).length vc) := fun o => kept_cell (hwa o) o2
            have hlen : (b.withTo l k).length * 32 ≤ 140737488351232 := by omega
            have hbs := hG1.size
            have how := hG1.own
            have hro := hG1.out
            generalize b.withTo l k = L at *
            clear hv2 hrb y0 y1 y2 y3 hG hlm hwm hfm hrm
            go_upto_region 11 with fail
            clear q0 q1 q2 o0 o1 z0
            refine wp_region_noPanic ?_
            refine wp_region_held_drew (S := (fun w' => w'.cell? ⟨w.heap.size, 2, none⟩ = some (.slice (some ⟨rb, off, none⟩) b.reads.length rc) ∧ w'.cell? ⟨rb, off + k * 4, none⟩ = some (.int .i64 r.day) ∧ w'.cell? ⟨rb, off + k * 4 + 1, none⟩ = some (.int .i64 r.zone) ∧ w'.cell? ⟨rb, off + k * 4 + 2, none⟩ = some (.int .i64 r.v.lo) ∧ w'.cell? ⟨rb, off + k * 4 + 3, none⟩ = some (.int .i64 r.v.hi))) (by kernel_rfl) ?_ (fun hHeld => ?_)
            · first | (first | exact kS _ hBd | exact kS _ (hBa _) | exact kS _ hB3 | exact kS _ (hB3.setCell (p := ⟨W2.heap.size, 2, none⟩) (Nat.le_refl _) _)) | (dsimp only; (first | exact kS _ hBd | exact kS _ (hBa _) | exact kS _ hB3 | exact kS _ (hB3.setCell (p := ⟨W2.heap.size, 2, none⟩) (Nat.le_refl _) _)))
            refine wpAnyH_take (i := 0) (v := ?_) rfl (by kernel_rfl) (by kernel_rfl) (by kernel_rfl) (fun _ _ _ h => h) (Or.inl ⟨by rfl, ?_⟩) (by assumption) ?_
            rotate_left
            · intro w hSw; (try dsimp only at hSw); go_simp; (try with_reducible rfl)
            try simp only [Act.put, List.getElem_toArray, List.getElem_cons_succ, List.getElem_cons_zero, List.setIfInBounds_toArray, List.set_cons_zero, List.set_cons_succ]
            refine wpAnyH_take (i := 2) (v := ?_) rfl (by kernel_rfl) (by kernel_rfl) (by kernel_rfl) (fun _ _ _ h => h) (Or.inl ⟨by rfl, ?_⟩) (by assumption) ?_
            rotate_left
            · intro w hSw; (try dsimp only at hSw); go_simp; (try with_reducible rfl)
            try simp only [Act.put, List.getElem_toArray, List.getElem_cons_succ, List.getElem_cons_zero, List.setIfInBounds_toArray, List.set_cons_zero, List.set_cons_succ]
            refine wpAnyH_take (i := 3) (v := ?_) rfl (by kernel_rfl) (by kernel_rfl) (by kernel_rfl) (fun _ _ _ h => h) (Or.inl ⟨by rfl, ?_⟩) (by assumption) ?_
            rotate_left
            · intro w hSw; (try dsimp only at hSw); go_simp; (try with_reducible rfl)
            try simp only [Act.put, List.getElem_toArray, List.getElem_cons_succ, List.getElem_cons_zero, List.setIfInBounds_toArray, List.set_cons_zero, List.set_cons_succ]
            refine wpAnyH_take (i := 4) (v := ?_) rfl (by kernel_rfl) (by kernel_rfl) (by kernel_rfl) (fun _ _ _ h => h) (Or.inl ⟨by rfl, ?_⟩) (by assumption) ?_
            rotate_left
            · intro w hSw; (try dsimp only at hSw); go_simp; (try with_reducible rfl)
            try simp only [Act.put, List.getElem_toArray, List.getElem_cons_succ, List.getElem_cons_zero, List.setIfInBounds_toArray, List.set_cons_zero, List.set_cons_succ]
            refine wpAnyH_take (i := 5) (v := ?_) rfl (by kernel_rfl) (by kernel_rfl) (by kernel_rfl) (fun _ _ _ h => h) (Or.inl ⟨by rfl, ?_⟩) (by assumption) ?_
            rotate_left
            · intro w hSw; (try dsimp only at hSw); go_simp; (try with_reducible rfl)
            try simp only [Act.put, List.getElem_toArray, List.getElem_cons_succ, List.getElem_cons_zero, List.setIfInBounds_toArray, List.set_cons_zero, List.set_cons_succ]
            refine wpAnyH_take (i := 6) (v := ?_) rfl (by kernel_rfl) (by kernel_rfl) (by kernel_rfl) (fun _ _ _ h => h) (Or.inl ⟨by rfl, ?_⟩) (by assumption) ?_
            rotate_left
            · intro w hSw; (try dsimp only at hSw); go_simp; (try with_reducible rfl)
            try simp only [Act.put, List.getElem_toArray, List.getElem_cons_succ, List.getElem_cons_zero, List.setIfInBounds_toArray, List.set_cons_zero, List.set_cons_succ]
            refine wpAnyH_ready (rs := [1, 7]) (by kernel_rfl) (by simp) ?_
            refine AllReadyH.cons rfl (fun K hK => ?wayA8439_1) (AllReadyH.cons rfl (fun K hK => ?wayB8439_1) AllReadyH.nil)
            case' wayA8439_1 =>
              go_simp
              refine hK.out _ _ ?_ (fun hNow => ?_)
              · first | (first | exact kS _ hBd | exact kS _ (hBa _) | exact kS _ hB3 | exact kS _ (hB3.setCell (p := ⟨W2.heap.size, 2, none⟩) (Nat.le_refl _) _)) | (dsimp only; (first | exact kS _ hBd | exact kS _ (hBa _) | exact kS _ hB3 | exact kS _ (hB3.setCell (p := ⟨W2.heap.size, 2, none⟩) (Nat.le_refl _) _)))
              clear hK K hHeld
              have hHeld := hNow
              clear hNow
              try simp only [Act.put, List.getElem_toArray, List.getElem_cons_succ, List.getElem_cons_zero, List.setIfInBounds_toArray, List.set_cons_zero, List.set_cons_succ]
              refine wpAnyH_ready (rs := [7]) (by kernel_rfl) (by simp) ?_
              refine AllReadyH.cons rfl (fun K hK => ?_) AllReadyH.nil
              go_simp
              refine hK.out _ _ ?_ (fun hNow => ?_)
              · first | (first | exact kS _ hBd | exact kS _ (hBa _) | exact kS _ hB3 | exact kS _ (hB3.setCell (p := ⟨W2.heap.size, 2, none⟩) (Nat.le_refl _) _)) | (dsimp only; (first | exact kS _ hBd | exact kS _ (hBa _) | exact kS _ hB3 | exact kS _ (hB3.setCell (p := ⟨W2.heap.size, 2, none⟩) (Nat.le_refl _) _)))
              clear hK K hHeld
              have hHeld := hNow
              clear hNow
              try simp only [Act.put, List.getElem_toArray, List.getElem_cons_succ, List.getElem_cons_zero, List.setIfInBounds_toArray, List.set_cons_zero, List.set_cons_succ]
              refine wpAnyH_ready (rs := [8]) (by kernel_rfl) (by simp) ?_
              refine AllReadyH.cons rfl (fun K hK => ?_) AllReadyH.nil
              (refine step_app_rd (by rfl) _ _ (by rfl) (W2.heap.size + 1) _ (.slice va L.length vc) L r _ (by rfl) (by rfl) (how.mono (hwa _)) hlen (by first | exact Nat.le_trans hbs (hwa _).size | exact Nat.le_trans hbs (by simp)) (World.alloc_heap_new _ _) ?_; intro v3 w3 ho3 hg3 hat3; obtain ⟨a3, c3, he3⟩ := ho3.slice; subst he3; have hB3 : Below W2.heap.size W2 w3 := (hBa _).grown hg3 (hBa _).size (fun k e => by have := (how.lt k e).1; omega); have hro3 : w3.heap[W2.heap.size]? = some (bkA (.slice fa b.first.length fc) (.slice wa b.flows.length ww) (.slice va L.length vc)) := (hg3.block _ (Nat.lt_of_lt_of_le zo (hwa _).size) (fun e => by have := (how.lt _ e.symm).1; omega)).trans (kept_block (hwa _) hro); obtain ⟨p0, p1, p2⟩ := rc3 hro3; obtain ⟨f0, f1, f2⟩ := rf3 hro3; have zx := (Array.getElem?_eq_some_iff.1 hro3).1)
              refine hK.out _ _ ?_ (fun hNow => ?_)
              · first | (first | exact kS _ hBd | exact kS _ (hBa _) | exact kS _ hB3 | exact kS _ (hB3.setCell (p := ⟨W2.heap.size, 2, none⟩) (Nat.le_refl _) _)) | (dsimp only; (first | exact kS _ hBd | exact kS _ (hBa _) | exact kS _ hB3 | exact kS _ (hB3.setCell (p := ⟨W2.heap.size, 2, none⟩) (Nat.le_refl _) _)))
              clear hK K hHeld
              have hHeld := hNow
              clear hNow
              try simp only [Act.put, List.getElem_toArray, List.getElem_cons_succ, List.getElem_cons_zero, List.setIfInBounds_toArray, List.set_cons_zero, List.set_cons_succ]
              refine wpAnyH_take (i := 9) (v := ?_) rfl (by kernel_rfl) (by kernel_rfl) (by kernel_rfl) (fun _ _ _ h => h) (Or.inl ⟨by rfl, ?_⟩) (by assumption) ?_
              rotate_left
              · intro w hSw; (try dsimp only at hSw); go_simp; (try with_reducible rfl)
              try simp only [Act.put, List.getElem_toArray, List.getElem_cons_succ, List.getElem_cons_zero, List.setIfInBounds_toArray, List.set_cons_zero, List.set_cons_succ]
              refine wpAnyH_ready (rs := [10]) (by kernel_rfl) (by simp) ?_
              refine AllReadyH.cons rfl (fun K hK => ?_) AllReadyH.nil
              go_simp
              refine hK.out _ _ ?_ (fun hNow => ?_)
              · first | (first | exact kS _ hBd | exact kS _ (hBa _) | exact kS _ hB3 | exact kS _ (hB3.setCell (p := ⟨W2.heap.size, 2, none⟩) (Nat.le_refl _) _)) | (dsimp only; (first | exact kS _ hBd | exact kS _ (hBa _) | exact kS _ hB3 | exact kS _ (hB3.setCell (p := ⟨W2.heap.size, 2, none⟩) (Nat.le_refl _) _)))
              clear hK K hHeld
              have hHeld := hNow
              clear hNow
              try simp only [Act.put, List.getElem_toArray, List.getElem_cons_succ, List.getElem_cons_zero, List.setIfInBounds_toArray, List.set_cons_zero, List.set_cons_succ]
              refine wpAnyH_done (by kernel_rfl) ?_ _
            case' wayB8439_1 =>
              go_simp
              refine hK.out _ _ ?_ (fun hNow => ?_)
              · first | (first | exact kS _ hBd | exact kS _ (hBa _) | exact kS _ hB3 | exact kS _ (hB3.setCell (p := ⟨W2.heap.size, 2, none⟩) (Nat.le_refl _) _)) | (dsimp only; (first | exact kS _ hBd | exact kS _ (hBa _) | exact kS _ hB3 | exact kS _ (hB3.setCell (p := ⟨W2.heap.size, 2, none⟩) (Nat.le_refl _) _)))
              clear hK K hHeld
              have hHeld := hNow
              clear hNow
              try simp only [Act.put, List.getElem_toArray, List.getElem_cons_succ, List.getElem_cons_zero, List.setIfInBounds_toArray, List.set_cons_zero, List.set_cons_succ]
              refine wpAnyH_ready (rs := [1]) (by kernel_rfl) (by simp) ?_
              refine AllReadyH.cons rfl (fun K hK => ?_) AllReadyH.nil
              go_simp
              refine hK.out _ _ ?_ (fun hNow => ?_)
              · first | (first | exact kS _ hBd | exact kS _ (hBa _) | exact kS _ hB3 | exact kS _ (hB3.setCell (p := ⟨W2.heap.size, 2, none⟩) (Nat.le_refl _) _)) | (dsimp only; (first | exact kS _ hBd | exact kS _ (hBa _) | exact kS _ hB3 | exact kS _ (hB3.setCell (p := ⟨W2.heap.size, 2, none⟩) (Nat.le_refl _) _)))
              clear hK K hHeld
              have hHeld := hNow
              clear hNow
              try simp only [Act.put, List.getElem_toArray, List.getElem_cons_succ, List.getElem_cons_zero, List.setIfInBounds_toArray, List.set_cons_zero, List.set_cons_succ]
              refine wpAnyH_ready (rs := [8]) (by kernel_rfl) (by simp) ?_
              refine AllReadyH.cons rfl (fun K hK => ?_) AllReadyH.nil
              (refine step_app_rd (by rfl) _ _ (by rfl) (W2.heap.size + 1) _ (.slice va L.length vc) L r _ (by rfl) (by rfl) (how.mono (hwa _)) hlen (by first | exact Nat.le_trans hbs (hwa _).size | exact Nat.le_trans hbs (by simp)) (World.alloc_heap_new _ _) ?_; intro v3 w3 ho3 hg3 hat3; obtain ⟨a3, c3, he3⟩ := ho3.slice; subst he3; have hB3 : Below W2.heap.size W2 w3 := (hBa _).grown hg3 (hBa _).size (fun k e => by have := (how.lt k e).1; omega); have hro3 : w3.heap[W2.heap.size]? = some (bkA (.slice fa b.first.length fc) (.slice wa b.flows.length ww) (.slice va L.length vc)) := (hg3.block _ (Nat.lt_of_lt_of_le zo (hwa _).size) (fun e => by have := (how.lt _ e.symm).1; omega)).trans (kept_block (hwa _) hro); obtain ⟨p0, p1, p2⟩ := rc3 hro3; obtain ⟨f0, f1, f2⟩ := rf3 hro3; have zx := (Array.getElem?_eq_some_iff.1 hro3).1)
              refine hK.out _ _ ?_ (fun hNow => ?_)
              · first | (first | exact kS _ hBd | exact kS _ (hBa _) | exact kS _ hB3 | exact kS _ (hB3.setCell (p := ⟨W2.heap.size, 2, none⟩) (Nat.le_refl _) _)) | (dsimp only; (first | exact kS _ hBd | exact kS _ (hBa _) | exact kS _ hB3 | exact kS _ (hB3.setCell (p := ⟨W2.heap.size, 2, none⟩) (Nat.le_refl _) _)))
              clear hK K hHeld
              have hHeld := hNow
              clear hNow
              try simp only [Act.put, List.getElem_toArray, List.getElem_cons_succ, List.getElem_cons_zero, List.setIfInBounds_toArray, List.set_cons_zero, List.set_cons_succ]
              refine wpAnyH_take (i := 9) (v := ?_) rfl (by kernel_rfl) (by kernel_rfl) (by kernel_rfl) (fun _ _ _ h => h) (Or.inl ⟨by rfl, ?_⟩) (by assumption) ?_
              rotate_left
              · intro w hSw; (try dsimp only at hSw); go_simp; (try with_reducible rfl)
              try simp only [Act.put, List.getElem_toArray, List.getElem_cons_succ, List.getElem_cons_zero, List.setIfInBounds_toArray, List.set_cons_zero, List.set_cons_succ]
              refine wpAnyH_ready (rs := [10]) (by kernel_rfl) (by simp) ?_
              refine AllReadyH.cons rfl (fun K hK => ?_) AllReadyH.nil
              go_simp
              refine hK.out _ _ ?_ (fun hNow => ?_)
              · first | (first | exact kS _ hBd | exact kS _ (hBa _) | exact kS _ hB3 | exact kS _ (hB3.setCell (p := ⟨W2.heap.size, 2, none⟩) (Nat.le_refl _) _)) | (dsimp only; (first | exact kS _ hBd | exact kS _ (hBa _) | exact kS _ hB3 | exact kS _ (hB3.setCell (p := ⟨W2.heap.size, 2, none⟩) (Nat.le_refl _) _)))
              clear hK K hHeld
              have hHeld := hNow
              clear hNow
              try simp only [Act.put, List.getElem_toArray, List.getElem_cons_succ, List.getElem_cons_zero, List.setIfInBounds_toArray, List.set_cons_zero, List.set_cons_succ]
              refine wpAnyH_done (by kernel_rfl) ?_ _
            all_goals
              refine NoPanic.normal ?_
              have hll2 : (L ++ [r]).length = L.length + 1 := by simp
              have hs3 : W2.heap.size + 1 ≤ w3.heap.size := zx
              rw [hll2] at ho3
              have hfin : Hid (WiSt W2 (.slice fa b.first.length fc) (.slice wa b.flows.length ww) (b.withTo l (k + 1)) (.slice a3 (L.length + 1) c3) (w3.setCell ⟨W2.heap.size, 2, none⟩ (.slice a3 (L.length + 1) c3))) := Lib.hid (by
                rw [hnx.out]
                refine ⟨?_, OwnSt.cellset ho3 (p := ⟨W2.heap.size, 2, none⟩) (Nat.lt_succ_self _) _, hB3.setCell (p := ⟨W2.heap.size, 2, none⟩) (Nat.le_refl _) _, by simp only [World.setCell, Array.size_modify]; exact hs3⟩
                have hs := set_one hro3 2 (.slice a3 (L.length + 1) c3)
                simp only [List.setIfInBounds_toArray, List.set_cons_succ, List.set_cons_zero] at hs
                exact hs)
              generalize w3.setCell ⟨W2.heap.size, 2, none⟩ (.slice a3 (L.length + 1) c3) = Z at hfin ⊢
              clear ho3 hg3 hat3 hB3 hro3 p0 p1 p2 f0 f1 f2 zx hs3 hHeld kS hBd hBa hwa hd2 ha2 hlen hbs how hro hG1
              go_wp2_with fail
              exact ⟨⟨k + 1, _, by omega, by go_num, hfin⟩, by simp [intOf]; omega⟩
          · have hnx := Lib.hid (withTo_yes (b := b) hT2.out.symm)
            go_wp2_with fail
            exact ⟨⟨k + 1, _, by omega, by go_num, by rw [hnx.out]; exact hG⟩, by simp [intOf]; omega⟩
    · obtain rfl : k = b.reads.length := by omega
      have hrow := kept_block hG0.bel hE1.out
      obtain ⟨f0, f1, f2⟩ := rf3 hrow
      obtain ⟨r0, r1, r2⟩ := rc3 hrow
      have zr := (Array.getElem?_eq_some_iff.1 hrow).1
      have hwB := below_tr hB2.out (hG0.bel)
      go_wp2_with fail
      have hL := hG0.own
      have hLt : W1.heap.size < W2.heap.size + 1 := by have := hlt1.out; omega
      have e1' := set_one hrow 0 (.slice fa b.first.length fc)
      simp only [List.setIfInBounds_toArray, List.set_cons_succ, List.set_cons_zero] at e1'
      have e2' := set_one e1' 1 (.slice wa b.flows.length ww)
      simp only [List.setIfInBounds_toArray, List.set_cons_succ, List.set_cons_zero] at e2'
      have e3' := set_one e2' 2 (.slice va (b.withTo l b.reads.length).length vc)
      simp only [List.setIfInBounds_toArray, List.set_cons_succ, List.set_cons_zero] at e3'
      have hBf := ((hwB.setCell (p := ⟨W1.heap.size, 0, none⟩) hlt2.out (.slice fa b.first.length fc)).setCell (p := ⟨W1.heap.size, 1, none⟩) hlt2.out (.slice wa b.flows.length ww)).setCell (p := ⟨W1.heap.size, 2, none⟩) hlt2.out (.slice va (b.withTo l b.reads.length).length vc)
      have hLf := OwnSt.cellset (OwnSt.cellset (OwnSt.cellset hL (p := ⟨W1.heap.size, 0, none⟩) hLt (.slice fa b.first.length fc)) (p := ⟨W1.heap.size, 1, none⟩) hLt (.slice wa b.flows.length ww)) (p := ⟨W1.heap.size, 2, none⟩) hLt (.slice va (b.withTo l b.reads.length).length vc)
      generalize ((wr.setCell ⟨W1.heap.size, 0, none⟩ (.slice fa b.first.length fc)).setCell ⟨W1.heap.size, 1, none⟩ (.slice wa b.flows.length ww)).setCell ⟨W1.heap.size, 2, none⟩ (.slice va (b.withTo l b.reads.length).length vc) = Y at *
      obtain ⟨r0, r1, r2⟩ := rc3 e3'
      refine bodyPost_ret (v := bkV (.slice fa b.first.length fc) (.slice wa b.flows.length ww) (.slice va (b.withTo l b.reads.length).length vc)) (by simp [results, Try.results41, go_sem, r0, r1, r2]) rfl ?_
      have hbY := hbh.out.mono hBf
      exact ⟨_, rfl, hBf, hbY.first, hbY.flows, by rw [← withTo_all]; exact OwnRds.rds hLf⟩
end Go.Proofs.Ytddmfkhmhdddeaa
