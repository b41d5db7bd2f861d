/- Walks: the contents of all zones at the end of each day, in a truth of a guess (the reference). -/
import Derived.Test.YtddmfkhmhdddeaaRws
import Derived.Test.YtddmfkhmhdddeaaRef
import Derived.Test.YtddmfkhmhdddeaaSlm
import Derived.Test.YtddmfkhmhdddeaaLoc
import Derived.Deep.Cut
set_option linter.unusedVariables false
set_option linter.unusedSimpArgs false
namespace Lk
/-- The content of zone i ahead of day k. -/
def conN (g : Gs) (xs : List Int) (ys : List (List Int)) (i : Nat) : Nat → Int
  | 0 => at0 xs i
  | k + 1 => conN g xs ys i k + at0 (lstAt ys k) i - lost g i k
def rowC (g : Gs) (xs : List Int) (ys : List (List Int)) (k : Nat) : List Int := (List.range xs.length).map fun i => conN g xs ys i k
/-- Of day d: the first k zones are done. -/
def midC (g : Gs) (xs : List Int) (ys : List (List Int)) (d k : Nat) : List Int := (List.range xs.length).map fun i => if i < k then conN g xs ys i (d + 1) else conN g xs ys i d
def conL (g : Gs) (xs : List Int) (ys : List (List Int)) (d : Nat) : List (List Int) := (List.range d).map fun k => rowC g xs ys (k + 1)
section
variable {g : Gs} {xs : List Int} {ys : List (List Int)} {d k : Nat}
theorem at0_range {f : Nat → Int} {n k : Nat} (h : k < n) : at0 ((List.range n).map f) k = f k := by simp [at0, h]
theorem rowC_0 : rowC g xs ys 0 = xs := by
  unfold rowC
  apply List.ext_getElem (by simp)
  intro i h1 h2
  simp [conN, at0, h2]
theorem midC_0 : midC g xs ys d 0 = rowC g xs ys d := by simp [midC, rowC]
theorem midC_n : midC g xs ys d xs.length = rowC g xs ys (d + 1) := by
  unfold midC rowC
  apply List.map_congr_left
  intro i hi
  rw [if_pos (List.mem_range.1 hi)]
theorem midC_len : (midC g xs ys d k).length = xs.length := by simp [midC]
theorem midC_set (h : k < xs.length) : (midC g xs ys d k).set k (conN g xs ys k (d + 1)) = midC g xs ys d (k + 1) := by
  apply List.ext_getElem (by simp [midC])
  intro i h1 h2
  rw [List.getElem_set]
  by_cases hi : k = i
  · subst hi; simp [midC]
  · simp only [if_neg hi, midC, List.getElem_map, List.getElem_range]
    have : (i < k) = (i < k + 1) := by apply propext; omega
    simp only [this]
theorem midC_at (h : k < xs.length) : at0 (midC g xs ys d k) k = conN g xs ys k d := by
  unfold midC; rw [at0_range h, if_neg (Nat.lt_irrefl k)]
theorem conL_succ : conL g xs ys (d + 1) = conL g xs ys d ++ [rowC g xs ys (d + 1)] := by simp [conL, List.range_succ]
theorem conL_len : (conL g xs ys d).length = d := by simp [conL]
theorem rowC_len : (rowC g xs ys d).length = xs.length := by simp [rowC]
end
end Lk
namespace Go.Proofs.Ytddmfkhmhdddeaa
open Go.RowKit Go.Sd Lk

def inC (l : List Int) : List Value := l.map (.int .i64 ·)
/-- A block that begins with numbers. -/
def IntIn (w : World) (q : Nat) (l : List Int) : Prop := ∃ rest, w.heap[q]? = some (.cells (inC l ++ rest).toArray 3)
theorem IntIn.lt {w : World} {q : Nat} {l : List Int} (h : IntIn w q l) : q < w.heap.size := let ⟨_, h⟩ := h; (Array.getElem?_eq_some_iff.1 h).1
theorem IntIn.mono {w w' : World} {q : Nat} {l : List Int} (h : IntIn w q l) (hb : Below w.heap.size w w') : IntIn w' q l := let ⟨r, h⟩ := h; ⟨r, kept_block hb h⟩
theorem IntIn.same {w w' : World} {q : Nat} {l : List Int} (h : IntIn w q l) (hb : w'.heap[q]? = w.heap[q]?) : IntIn w' q l := let ⟨r, h⟩ := h; ⟨r, hb.trans h⟩
theorem IntIn.cell {w : World} {q : Nat} {l : List Int} (h : IntIn w q l) {k : Nat} (hk : k < l.length) : w.cell? ⟨q, k, none⟩ = some (.int .i64 (at0 l k)) ∧ w.frozen? ⟨q, k, none⟩ = false := by
  obtain ⟨rest, h⟩ := h
  obtain ⟨-, r, f⟩ := row_cells h
  refine ⟨?_, f _⟩
  rw [r, List.getElem?_toArray, List.getElem?_append_left (by simp [inC]; exact hk)]
  simp [inC, at0, hk]
theorem IntIn.set {w : World} {q : Nat} {l : List Int} (h : IntIn w q l) {k : Nat} (hk : k < l.length) (y : Int) : IntIn (w.setCell ⟨q, k, none⟩ (.int .i64 y)) q (l.set k y) := by
  obtain ⟨rest, h⟩ := h
  refine ⟨rest, ?_⟩
  have e : inC (l.set k y) ++ rest = (inC l ++ rest).set k (.int .i64 y) := by
    rw [List.set_append_left _ _ (by simp [inC]; exact hk)]
    simp [inC, List.map_set]
  rw [e]
  simp only [World.setCell, Array.getElem?_modify, if_true, h]
  simp
theorem int_of_own {B : Nat} {w : World} {a : Option Addr} {n cap : Nat} {l : List Int} (h : OwnInts B w (.slice a n cap) l) (h0 : 0 < l.length) : ∃ q, a = some ⟨q, 0, none⟩ ∧ B ≤ q ∧ IntIn w q l := by
  obtain ⟨h1, h2⟩ := h
  rcases h2 with ⟨-, hn⟩ | ⟨q, c, cur, hv, hB, hg, -, -, hs, ht⟩
  · omega
  · cases hv
    refine ⟨q, rfl, hB, cur.toList.drop (l.length * 1), ?_⟩
    have : inC l = l.flatMap intEnc := by
      clear ht hs hg h1 h0
      induction l with
      | nil => rfl
      | cons x xs ih => simp [inC] at ih ⊢; exact ih
    rw [this, ← ht, List.take_append_drop]
    exact hg
theorem infoSl : (Try.prog.info? 38).map (fun i => (i.zero, i.size, i.bytes)) = some (some (.slice none 0 0), 1, 24) := by kernel_rfl

structure CoSt (w : World) (g : Gs) (q d k : Nat) (xs : List Int) (ys : List (List Int)) (v : Value) (W : World) : Prop where
  gs : W.heap[w.heap.size]? = some (gsO g)
  now : IntIn W q (midC g xs ys d k)
  out : OwnRs 38 3 1 intEnc (w.heap.size + 1) (fun b => b = q) W v (conL g xs ys d)
  bel : Below w.heap.size w W
theorem CoSt.mono {w : World} {g : Gs} {q d k : Nat} {xs : List Int} {ys : List (List Int)} {v : Value} {W V : World} (h : CoSt w g q d k xs ys v W) (hb : Below W.heap.size W V) : CoSt w g q d k xs ys v V :=
  ⟨kept_block hb h.gs, h.now.mono hb, h.out.mono hb, below_tr h.bel hb⟩
theorem CoSt.next {w : World} {g : Gs} {q d k : Nat} {xs : List Int} {ys : List (List Int)} {v : Value} {W : World} (h : CoSt w g q d k xs ys v W) (hq : w.heap.size + 1 ≤ q) (hk : k < xs.length) :
    CoSt w g q d (k + 1) xs ys v (W.setCell ⟨q, k, none⟩ (.int .i64 (conN g xs ys k (d + 1)))) := by
  have hk2 : Kept (fun b => b ≠ q) W (W.setCell ⟨q, k, none⟩ (.int .i64 (conN g xs ys k (d + 1)))) := (Kept.refl _ _).setCell (p := ⟨q, k, none⟩) (.inl fun h => h rfl) _
  refine ⟨(hk2.block _ (Array.getElem?_eq_some_iff.1 h.gs).1 (by omega)).trans h.gs, ?_, h.out.kept hk2 fun b _ hb => hb, h.bel.setCell (p := ⟨q, k, none⟩) (by show w.heap.size ≤ q; omega) _⟩
  rw [← midC_set hk]
  exact h.now.set (by rw [midC_len]; exact hk) _

set_option maxRecDepth 100000 in
set_option maxHeartbeats 4000000 in
theorem refContents (g : Gs) (xv yv : Value) (xs : List Int) (ys : List (List Int)) (w : World) (hx : IntsAt w xv xs) (hy : ListsAt w yv ys) (hx0 : 0 < xs.length ∧ xs.length ≤ 100) (hy0 : ys.length ≤ 100) (hr : ∀ d, d < ys.length → (lstAt ys d).length = xs.length)
    (hbd : ∀ i d, i < xs.length → d ≤ ys.length → -1000000000000 ≤ conN g xs ys i d ∧ conN g xs ys i d ≤ 1000000000000) (hfb : ∀ d i, d < ys.length → i < xs.length → -1000000000000 ≤ at0 (lstAt ys d) i ∧ at0 (lstAt ys d) i ≤ 1000000000000) (hsz : 0 ≤ g.size ∧ g.size ≤ 1000000000000) :
    Calls Try.prog 37 #[gsV g, xv, yv] w fun e w' => Below w.heap.size w w' ∧ ∃ v, e = .returned v ∧ ListsAt w' v (conL g xs ys ys.length) := by
  obtain ⟨W, hW⟩ : ∃ W, w.alloc (gsO g) = W := ⟨_, rfl⟩
  obtain ⟨e0, b0, s0⟩ := boxed hW
  have hX := hx.mono b0
  have hYw := Lib.hid hy
  obtain ⟨c0, o0, k0, rfl, hl0, -, -⟩ := int_cells hx (k := 0) hx0.1
  obtain ⟨ya, yc, rfl, hym, -⟩ := hy.form
  obtain ⟨a', cap', hv', hm', hcx⟩ := hX
  obtain ⟨b', off', rfl, hb', hcx'⟩ := hcx hx0.1
  obtain ⟨⟨rfl, rfl⟩, rfl⟩ : (c0 = b' ∧ o0 = off') ∧ k0 = cap' := by simpa using hv'
  have hE := Lib.hid e0
  have hBW := Lib.hid b0
  have hWs : w.heap.size + 1 ≤ W.heap.size := by omega
  replace hr := Lib.hid hr
  replace hbd := Lib.hid hbd
  replace hfb := Lib.hid hfb
  clear hx hy hv' hm' hcx s0 b0 e0 hb' hl0
  go_enter Try.func37, Try.ntmps37
  go_wp2_with (at_builtin; refine wpList_app_all (enc := intEnc) intEnc_len 0 38 3 _ 8 Try.underlying38 infoInt rfl (by omega) (by omega) intEnc_one (by rfl) _ _ (by rfl) (w.heap.size + 1) W (.slice none 0 0) [] xs (by rfl) (OwnSt.nil _ _ _ _ _) _ _ _ (by rfl) hcx' (by simp) (by omega) hWs ?_; intro v1 w1 ho1 hg1 hat1; rw [List.nil_append] at ho1; obtain ⟨a1, cc, he1⟩ := ho1.slice; subst he1)
  obtain ⟨q, rfl, hqB, hin⟩ := int_of_own ho1 hx0.1
  have hB1 : Below W.heap.size W w1 := ⟨hg1.os, hg1.tape, hg1.output, hg1.size, fun b hb => hg1.block b hb (by simp [Value.ownBlock])⟩
  have hS0 : Hid (CoSt w g q 0 0 xs ys (.slice none 0 0) w1) := Lib.hid ⟨kept_block hB1 hE.out, by rw [midC_0, rowC_0]; exact hin, OwnRs.nil, below_tr hBW.out hB1⟩
  have hWs' := hWs
  have hsz1 := hB1.size
  clear hcx' ho1 hg1 hat1 hin hB1 hW hE hBW hWs
  have hw1 : Hid (w.heap.size + 1 ≤ w1.heap.size) := Lib.hid (Nat.le_trans hWs' hsz1)
  go_loopw [7, 9] (fun p i wr => ∃ (d : Nat) (v : Value), d ≤ ys.length ∧ v = p ∧ i = .int .i64 d ∧ Hid (CoSt w g q d 0 xs ys v wr ∧ w.heap.size + 1 ≤ wr.heap.size)) (fun _ i _ => ys.length - (intOf i).toNat)
  case atStart => exact ⟨0, _, by omega, rfl, rfl, hS0.out, hw1.out⟩
  case round =>
    obtain ⟨d, v, hd, rfl, rfl, hH⟩ := hrel
    clear hS0 hw1
    by_cases hdl : d < ys.length
    · have hdi : (d : Int) < (ys.length : Int) := by omega
      obtain ⟨S, rfl⟩ : ∃ S : World, S = wr := ⟨_, rfl⟩
      go_wp2
      go_loopw [10] (fun i wr => ∃ k : Nat, k ≤ xs.length ∧ i = .int .i64 k ∧ Hid (CoSt w g q d k xs ys v wr ∧ w.heap.size + 1 ≤ wr.heap.size)) (fun i _ => xs.length - (intOf i).toNat)
      case atStart => exact ⟨0, by omega, rfl, hH.out⟩
      case round =>
        obtain ⟨k, hk, rfl, hG⟩ := hrel
        obtain ⟨hS, hwr⟩ := hG.out
        clear hG hH
        by_cases hkl : k < xs.length
        · have hki : (k : Int) < (xs.length : Int) := by omega
          obtain ⟨n0, nf⟩ := hS.now.cell (k := k) (by rw [midC_len]; exact hkl)
          rw [midC_at hkl] at n0
          obtain ⟨c1, o1, k1, ev, hv1, hl1, -, y0, hrow⟩ := list_cell (hYw.out.mono hS.bel) (k := d) hdl
          obtain ⟨rfl, rfl⟩ : ya = some ⟨c1, o1, none⟩ ∧ yc = k1 := by simpa using hv1
          obtain ⟨c2, o2, k2, rfl, hl2, -, y1⟩ := int_cells hrow (k := k) (by rw [hr.out d hdl]; exact hkl)
          rw [hr.out d hdl] at y0
          obtain ⟨g0, g1, g2⟩ := rc3 hS.gs
          have zG := (Array.getElem?_eq_some_iff.1 hS.gs).1
          have zq := hS.now.lt
          have kL := Lib.hid (fun x => refLost g k d x)
          have hb1 := hbd.out k d hkl (by omega)
          have hb2 := hfb.out d k hdl hkl
          have hlb : 0 ≤ lost g k d ∧ lost g k d ≤ 1000000000000 := by unfold lost; split <;> omega
          have hnx : Hid (conN g xs ys k (d + 1) = conN g xs ys k d + at0 (lstAt ys d) k - lost g k d) := rfl
          have hS' := Lib.hid hS
          clear hv1 hrow hS
          generalize conN g xs ys k d = a at *
          generalize at0 (lstAt ys d) k = f at *
          generalize lost g k d = n at *
          go_wp2
          refine plain_region (by kernel_rfl) (any_region_locN 20 51 [] [25, 26, 27, 28, 29, 30, 31, 32, 33, 34, 35, 36, 37, 38, 39, 40, 41, 42, 43, 44] [[], [], [], [], [2, 3], [4], [], [], [6, 7], [8], [], [9, 10], [11], [5, 12], [], [], [], [14, 15, 16], [13, 17], [0, 1]] [IsV (.slice (some ⟨q, 0, none⟩) xs.length cc), IsV (.int .i64 k), IsV (.slice (some ⟨q, 0, none⟩) xs.length cc), IsV (.int .i64 k), IsV (.pointer (some ⟨q, k, none⟩)), IsV (.int .i64 a), IsV (.slice (some ⟨c1, o1, none⟩) ys.length yc), IsV (.int .i64 d), IsV (.pointer (some ⟨c1, o1 + d, none⟩)), IsV (.slice (some ⟨c2, o2, none⟩) xs.length k2), IsV (.int .i64 k), IsV (.pointer (some ⟨c2, o2 + k, none⟩)), IsV (.int .i64 f), IsV (.int .i64 (a + f)), IsV (gsV g), IsV (.int .i64 k), IsV (.int .i64 d), IsV (.int .i64 n), IsV (.int .i64 (a + f - n)), IsV (.pointer (some ⟨q, k, none⟩))] [] (by kernel_rfl) (by kernel_rfl) (by kernel_rfl) (by kernel_rfl) (by kernel_rfl) rfl OnlyN.panic ?_ ?_ ?_ (fun j hj => nomatch hj) ?_)
          · exact List.forall_mem_cons.2 ⟨pers_v _, List.forall_mem_cons.2 ⟨pers_v _, List.forall_mem_cons.2 ⟨pers_v _, List.forall_mem_cons.2 ⟨pers_v _, List.forall_mem_cons.2 ⟨pers_v _, List.forall_mem_cons.2 ⟨pers_v _, List.forall_mem_cons.2 ⟨pers_v _, List.forall_mem_cons.2 ⟨pers_v _, List.forall_mem_cons.2 ⟨pers_v _, List.forall_mem_cons.2 ⟨pers_v _, List.forall_mem_cons.2 ⟨pers_v _, List.forall_mem_cons.2 ⟨pers_v _, List.forall_mem_cons.2 ⟨pers_v _, List.forall_mem_cons.2 ⟨pers_v _, List.forall_mem_cons.2 ⟨pers_v _, List.forall_mem_cons.2 ⟨pers_v _, List.forall_mem_cons.2 ⟨pers_v _, List.forall_mem_cons.2 ⟨pers_v _, List.forall_mem_cons.2 ⟨pers_v _, List.forall_mem_cons.2 ⟨pers_v _, fun f h => nomatch h⟩⟩⟩⟩⟩⟩⟩⟩⟩⟩⟩⟩⟩⟩⟩⟩⟩⟩⟩⟩
          · intro k hk; cases hk
          · refine ⟨?_, ?_, ?_, ?_, ?_, ?_, ?_, ?_, ?_, ?_, ?_, ?_, ?_, ?_, ?_, ?_, ?_, ?_, ?_, ?_, trivial⟩
            · intro vals x hb hf
              simp only [fillS, List.getD_cons_succ, List.getD_cons_zero, Act.put, List.setIfInBounds_toArray, List.set_cons_zero, List.set_cons_succ]
              clear hf
              have u0 := kept_cell hb n0
              have u1 := kept_cell hb y0
              have u2 := kept_cell hb y1
              have v0 := kept_cell hb g0
              have v1 := kept_cell hb g1
              have v2 := kept_cell hb g2
              have zx := Nat.lt_of_lt_of_le zG hb.size
              have zx2 := Nat.lt_of_lt_of_le zq hb.size
              go_wp2
              exact ⟨rfl, rfl, Below.refl _ _, _, rfl, rfl, (fun h => absurd h (by decide))⟩
            · intro vals x hb hf
              simp only [fillS, List.getD_cons_succ, List.getD_cons_zero, Act.put, List.setIfInBounds_toArray, List.set_cons_zero, List.set_cons_succ]
              clear hf
              have u0 := kept_cell hb n0
              have u1 := kept_cell hb y0
              have u2 := kept_cell hb y1
              have v0 := kept_cell hb g0
              have v1 := kept_cell hb g1
              have v2 := kept_cell hb g2
              have zx := Nat.lt_of_lt_of_le zG hb.size
              have zx2 := Nat.lt_of_lt_of_le zq hb.size
              go_wp2
              exact ⟨rfl, rfl, Below.refl _ _, _, rfl, rfl, (fun h => absurd h (by decide))⟩
            · intro vals x hb hf
              simp only [fillS, List.getD_cons_succ, List.getD_cons_zero, Act.put, List.setIfInBounds_toArray, List.set_cons_zero, List.set_cons_succ]
              clear hf
              have u0 := kept_cell hb n0
              have u1 := kept_cell hb y0
              have u2 := kept_cell hb y1
              have v0 := kept_cell hb g0
              have v1 := kept_cell hb g1
              have v2 := kept_cell hb g2
              have zx := Nat.lt_of_lt_of_le zG hb.size
              have zx2 := Nat.lt_of_lt_of_le zq hb.size
              go_wp2
              exact ⟨rfl, rfl, Below.refl _ _, _, rfl, rfl, (fun h => absurd h (by decide))⟩
            · intro vals x hb hf
              simp only [fillS, List.getD_cons_succ, List.getD_cons_zero, Act.put, List.setIfInBounds_toArray, List.set_cons_zero, List.set_cons_succ]
              clear hf
              have u0 := kept_cell hb n0
              have u1 := kept_cell hb y0
              have u2 := kept_cell hb y1
              have v0 := kept_cell hb g0
              have v1 := kept_cell hb g1
              have v2 := kept_cell hb g2
              have zx := Nat.lt_of_lt_of_le zG hb.size
              have zx2 := Nat.lt_of_lt_of_le zq hb.size
              go_wp2
              exact ⟨rfl, rfl, Below.refl _ _, _, rfl, rfl, (fun h => absurd h (by decide))⟩
            · intro vals x hb hf
              simp only [fillS, List.getD_cons_succ, List.getD_cons_zero, Act.put, List.setIfInBounds_toArray, List.set_cons_zero, List.set_cons_succ]
              have h2 : vals 2 = .slice (some ⟨q, 0, none⟩) xs.length cc := hf.1
              rw [h2]
              clear h2
              have h3 : vals 3 = .int .i64 k := hf.2.1
              rw [h3]
              clear h3
              clear hf
              have u0 := kept_cell hb n0
              have u1 := kept_cell hb y0
              have u2 := kept_cell hb y1
              have v0 := kept_cell hb g0
              have v1 := kept_cell hb g1
              have v2 := kept_cell hb g2
              have zx := Nat.lt_of_lt_of_le zG hb.size
              have zx2 := Nat.lt_of_lt_of_le zq hb.size
              go_wp2
              exact ⟨rfl, rfl, Below.refl _ _, _, rfl, rfl, (fun h => absurd h (by decide))⟩
            · intro vals x hb hf
              simp only [fillS, List.getD_cons_succ, List.getD_cons_zero, Act.put, List.setIfInBounds_toArray, List.set_cons_zero, List.set_cons_succ]
              have h4 : vals 4 = .pointer (some ⟨q, k, none⟩) := hf.1
              rw [h4]
              clear h4
              clear hf
              have u0 := kept_cell hb n0
              have u1 := kept_cell hb y0
              have u2 := kept_cell hb y1
              have v0 := kept_cell hb g0
              have v1 := kept_cell hb g1
              have v2 := kept_cell hb g2
              have zx := Nat.lt_of_lt_of_le zG hb.size
              have zx2 := Nat.lt_of_lt_of_le zq hb.size
              go_wp2
              exact ⟨rfl, rfl, Below.refl _ _, _, rfl, rfl, (fun h => absurd h (by decide))⟩
            · intro vals x hb hf
              simp only [fillS, List.getD_cons_succ, List.getD_cons_zero, Act.put, List.setIfInBounds_toArray, List.set_cons_zero, List.set_cons_succ]
              clear hf
              have u0 := kept_cell hb n0
              have u1 := kept_cell hb y0
              have u2 := kept_cell hb y1
              have v0 := kept_cell hb g0
              have v1 := kept_cell hb g1
              have v2 := kept_cell hb g2
              have zx := Nat.lt_of_lt_of_le zG hb.size
              have zx2 := Nat.lt_of_lt_of_le zq hb.size
              go_wp2
              exact ⟨rfl, rfl, Below.refl _ _, _, rfl, rfl, (fun h => absurd h (by decide))⟩
            · intro vals x hb hf
              simp only [fillS, List.getD_cons_succ, List.getD_cons_zero, Act.put, List.setIfInBounds_toArray, List.set_cons_zero, List.set_cons_succ]
              clear hf
              have u0 := kept_cell hb n0
              have u1 := kept_cell hb y0
              have u2 := kept_cell hb y1
              have v0 := kept_cell hb g0
              have v1 := kept_cell hb g1
              have v2 := kept_cell hb g2
              have zx := Nat.lt_of_lt_of_le zG hb.size
              have zx2 := Nat.lt_of_lt_of_le zq hb.size
              go_wp2
              exact ⟨rfl, rfl, Below.refl _ _, _, rfl, rfl, (fun h => absurd h (by decide))⟩
            · intro vals x hb hf
              simp only [fillS, List.getD_cons_succ, List.getD_cons_zero, Act.put, List.setIfInBounds_toArray, List.set_cons_zero, List.set_cons_succ]
              have h6 : vals 6 = .slice (some ⟨c1, o1, none⟩) ys.length yc := hf.1
              rw [h6]
              clear h6
              have h7 : vals 7 = .int .i64 d := hf.2.1
              rw [h7]
              clear h7
              clear hf
              have u0 := kept_cell hb n0
              have u1 := kept_cell hb y0
              have u2 := kept_cell hb y1
              have v0 := kept_cell hb g0
              have v1 := kept_cell hb g1
              have v2 := kept_cell hb g2
              have zx := Nat.lt_of_lt_of_le zG hb.size
              have zx2 := Nat.lt_of_lt_of_le zq hb.size
              go_wp2
              exact ⟨rfl, rfl, Below.refl _ _, _, rfl, rfl, (fun h => absurd h (by decide))⟩
            · intro vals x hb hf
              simp only [fillS, List.getD_cons_succ, List.getD_cons_zero, Act.put, List.setIfInBounds_toArray, List.set_cons_zero, List.set_cons_succ]
              have h8 : vals 8 = .pointer (some ⟨c1, o1 + d, none⟩) := hf.1
              rw [h8]
              clear h8
              clear hf
              have u0 := kept_cell hb n0
              have u1 := kept_cell hb y0
              have u2 := kept_cell hb y1
              have v0 := kept_cell hb g0
              have v1 := kept_cell hb g1
              have v2 := kept_cell hb g2
              have zx := Nat.lt_of_lt_of_le zG hb.size
              have zx2 := Nat.lt_of_lt_of_le zq hb.size
              go_wp2
              exact ⟨rfl, rfl, Below.refl _ _, _, rfl, rfl, (fun h => absurd h (by decide))⟩
            · intro vals x hb hf
              simp only [fillS, List.getD_cons_succ, List.getD_cons_zero, Act.put, List.setIfInBounds_toArray, List.set_cons_zero, List.set_cons_succ]
              clear hf
              have u0 := kept_cell hb n0
              have u1 := kept_cell hb y0
              have u2 := kept_cell hb y1
              have v0 := kept_cell hb g0
              have v1 := kept_cell hb g1
              have v2 := kept_cell hb g2
              have zx := Nat.lt_of_lt_of_le zG hb.size
              have zx2 := Nat.lt_of_lt_of_le zq hb.size
              go_wp2
              exact ⟨rfl, rfl, Below.refl _ _, _, rfl, rfl, (fun h => absurd h (by decide))⟩
            · intro vals x hb hf
              simp only [fillS, List.getD_cons_succ, List.getD_cons_zero, Act.put, List.setIfInBounds_toArray, List.set_cons_zero, List.set_cons_succ]
              have h9 : vals 9 = .slice (some ⟨c2, o2, none⟩) xs.length k2 := hf.1
              rw [h9]
              clear h9
              have h10 : vals 10 = .int .i64 k := hf.2.1
              rw [h10]
              clear h10
              clear hf
              have u0 := kept_cell hb n0
              have u1 := kept_cell hb y0
              have u2 := kept_cell hb y1
              have v0 := kept_cell hb g0
              have v1 := kept_cell hb g1
              have v2 := kept_cell hb g2
              have zx := Nat.lt_of_lt_of_le zG hb.size
              have zx2 := Nat.lt_of_lt_of_le zq hb.size
              go_wp2
              exact ⟨rfl, rfl, Below.refl _ _, _, rfl, rfl, (fun h => absurd h (by decide))⟩
            · intro vals x hb hf
              simp only [fillS, List.getD_cons_succ, List.getD_cons_zero, Act.put, List.setIfInBounds_toArray, List.set_cons_zero, List.set_cons_succ]
              have h11 : vals 11 = .pointer (some ⟨c2, o2 + k, none⟩) := hf.1
              rw [h11]
              clear h11
              clear hf
              have u0 := kept_cell hb n0
              have u1 := kept_cell hb y0
              have u2 := kept_cell hb y1
              have v0 := kept_cell hb g0
              have v1 := kept_cell hb g1
              have v2 := kept_cell hb g2
              have zx := Nat.lt_of_lt_of_le zG hb.size
              have zx2 := Nat.lt_of_lt_of_le zq hb.size
              go_wp2
              exact ⟨rfl, rfl, Below.refl _ _, _, rfl, rfl, (fun h => absurd h (by decide))⟩
            · intro vals x hb hf
              simp only [fillS, List.getD_cons_succ, List.getD_cons_zero, Act.put, List.setIfInBounds_toArray, List.set_cons_zero, List.set_cons_succ]
              have h5 : vals 5 = .int .i64 a := hf.1
              rw [h5]
              clear h5
              have h12 : vals 12 = .int .i64 f := hf.2.1
              rw [h12]
              clear h12
              clear hf
              have u0 := kept_cell hb n0
              have u1 := kept_cell hb y0
              have u2 := kept_cell hb y1
              have v0 := kept_cell hb g0
              have v1 := kept_cell hb g1
              have v2 := kept_cell hb g2
              have zx := Nat.lt_of_lt_of_le zG hb.size
              have zx2 := Nat.lt_of_lt_of_le zq hb.size
              go_wp2
              exact ⟨rfl, rfl, Below.refl _ _, _, rfl, rfl, (fun h => absurd h (by decide))⟩
            · intro vals x hb hf
              simp only [fillS, List.getD_cons_succ, List.getD_cons_zero, Act.put, List.setIfInBounds_toArray, List.set_cons_zero, List.set_cons_succ]
              clear hf
              have u0 := kept_cell hb n0
              have u1 := kept_cell hb y0
              have u2 := kept_cell hb y1
              have v0 := kept_cell hb g0
              have v1 := kept_cell hb g1
              have v2 := kept_cell hb g2
              have zx := Nat.lt_of_lt_of_le zG hb.size
              have zx2 := Nat.lt_of_lt_of_le zq hb.size
              go_wp2
              exact ⟨rfl, rfl, Below.refl _ _, _, rfl, rfl, (fun h => absurd h (by decide))⟩
            · intro vals x hb hf
              simp only [fillS, List.getD_cons_succ, List.getD_cons_zero, Act.put, List.setIfInBounds_toArray, List.set_cons_zero, List.set_cons_succ]
              clear hf
              have u0 := kept_cell hb n0
              have u1 := kept_cell hb y0
              have u2 := kept_cell hb y1
              have v0 := kept_cell hb g0
              have v1 := kept_cell hb g1
              have v2 := kept_cell hb g2
              have zx := Nat.lt_of_lt_of_le zG hb.size
              have zx2 := Nat.lt_of_lt_of_le zq hb.size
              go_wp2
              exact ⟨rfl, rfl, Below.refl _ _, _, rfl, rfl, (fun h => absurd h (by decide))⟩
            · intro vals x hb hf
              simp only [fillS, List.getD_cons_succ, List.getD_cons_zero, Act.put, List.setIfInBounds_toArray, List.set_cons_zero, List.set_cons_succ]
              clear hf
              have u0 := kept_cell hb n0
              have u1 := kept_cell hb y0
              have u2 := kept_cell hb y1
              have v0 := kept_cell hb g0
              have v1 := kept_cell hb g1
              have v2 := kept_cell hb g2
              have zx := Nat.lt_of_lt_of_le zG hb.size
              have zx2 := Nat.lt_of_lt_of_le zq hb.size
              go_wp2
              exact ⟨rfl, rfl, Below.refl _ _, _, rfl, rfl, (fun h => absurd h (by decide))⟩
            · intro vals x hb hf
              simp only [fillS, List.getD_cons_succ, List.getD_cons_zero, Act.put, List.setIfInBounds_toArray, List.set_cons_zero, List.set_cons_succ]
              have h14 : vals 14 = gsV g := hf.1
              rw [h14]
              clear h14
              have h15 : vals 15 = .int .i64 k := hf.2.1
              rw [h15]
              clear h15
              have h16 : vals 16 = .int .i64 d := hf.2.2.1
              rw [h16]
              clear h16
              clear hf
              have u0 := kept_cell hb n0
              have u1 := kept_cell hb y0
              have u2 := kept_cell hb y1
              have v0 := kept_cell hb g0
              have v1 := kept_cell hb g1
              have v2 := kept_cell hb g2
              have zx := Nat.lt_of_lt_of_le zG hb.size
              have zx2 := Nat.lt_of_lt_of_le zq hb.size
              go_wp2_with (go_at_call 68; (with_reducible refine Calls.mono (kL.out x) ?_); rintro e y ⟨rfl, hB⟩)
              exact ⟨rfl, rfl, hB, _, rfl, rfl, (fun h => absurd h (by decide))⟩
            · intro vals x hb hf
              simp only [fillS, List.getD_cons_succ, List.getD_cons_zero, Act.put, List.setIfInBounds_toArray, List.set_cons_zero, List.set_cons_succ]
              have h13 : vals 13 = .int .i64 (a + f) := hf.1
              rw [h13]
              clear h13
              have f17 : (IsV (.int .i64 n)) (vals 17) x := hf.2.1
              clear hf
              have u0 := kept_cell hb n0
              have u1 := kept_cell hb y0
              have u2 := kept_cell hb y1
              have v0 := kept_cell hb g0
              have v1 := kept_cell hb g1
              have v2 := kept_cell hb g2
              have zx := Nat.lt_of_lt_of_le zG hb.size
              have zx2 := Nat.lt_of_lt_of_le zq hb.size
              rw [show vals 17 = .int .i64 n from f17]
              go_wp2
              exact ⟨rfl, rfl, Below.refl _ _, _, rfl, rfl, (fun h => absurd h (by decide))⟩
            · intro vals x hb hf
              simp only [fillS, List.getD_cons_succ, List.getD_cons_zero, Act.put, List.setIfInBounds_toArray, List.set_cons_zero, List.set_cons_succ]
              have h0 : vals 0 = .slice (some ⟨q, 0, none⟩) xs.length cc := hf.1
              rw [h0]
              clear h0
              have h1 : vals 1 = .int .i64 k := hf.2.1
              rw [h1]
              clear h1
              clear hf
              have u0 := kept_cell hb n0
              have u1 := kept_cell hb y0
              have u2 := kept_cell hb y1
              have v0 := kept_cell hb g0
              have v1 := kept_cell hb g1
              have v2 := kept_cell hb g2
              have zx := Nat.lt_of_lt_of_le zG hb.size
              have zx2 := Nat.lt_of_lt_of_le zq hb.size
              go_wp2
              exact ⟨rfl, rfl, Below.refl _ _, _, rfl, rfl, (fun h => absurd h (by decide))⟩
          intro vals x hb hf hp
          have hrange : List.range 20 = [0, 1, 2, 3, 4, 5, 6, 7, 8, 9, 10, 11, 12, 13, 14, 15, 16, 17, 18, 19] := by rfl
          rw [hrange]
          simp only [fillS, List.getD_cons_succ, List.getD_cons_zero, Act.put, List.setIfInBounds_toArray, List.set_cons_zero, List.set_cons_succ]
          have h0 : vals 0 = .slice (some ⟨q, 0, none⟩) xs.length cc := hf 0 (by omega)
          have h1 : vals 1 = .int .i64 k := hf 1 (by omega)
          have h2 : vals 2 = .slice (some ⟨q, 0, none⟩) xs.length cc := hf 2 (by omega)
          have h3 : vals 3 = .int .i64 k := hf 3 (by omega)
          have h4 : vals 4 = .pointer (some ⟨q, k, none⟩) := hf 4 (by omega)
          have h5 : vals 5 = .int .i64 a := hf 5 (by omega)
          have h6 : vals 6 = .slice (some ⟨c1, o1, none⟩) ys.length yc := hf 6 (by omega)
          have h7 : vals 7 = .int .i64 d := hf 7 (by omega)
          have h8 : vals 8 = .pointer (some ⟨c1, o1 + d, none⟩) := hf 8 (by omega)
          have h9 : vals 9 = .slice (some ⟨c2, o2, none⟩) xs.length k2 := hf 9 (by omega)
          have h10 : vals 10 = .int .i64 k := hf 10 (by omega)
          have h11 : vals 11 = .pointer (some ⟨c2, o2 + k, none⟩) := hf 11 (by omega)
          have h12 : vals 12 = .int .i64 f := hf 12 (by omega)
          have h13 : vals 13 = .int .i64 (a + f) := hf 13 (by omega)
          have h14 : vals 14 = gsV g := hf 14 (by omega)
          have h15 : vals 15 = .int .i64 k := hf 15 (by omega)
          have h16 : vals 16 = .int .i64 d := hf 16 (by omega)
          have f17 : (IsV (.int .i64 n)) (vals 17) x := hf 17 (by omega)
          have f18 : (IsV (.int .i64 (a + f - n))) (vals 18) x := hf 18 (by omega)
          have h19 : vals 19 = .pointer (some ⟨q, k, none⟩) := hf 19 (by omega)
          rw [h0, h1, h2, h3, h4, h5, h6, h7, h8, h9, h10, h11, h12, h13, h14, h15, h16, h19]
          clear h0 h1 h2 h3 h4 h5 h6 h7 h8 h9 h10 h11 h12 h13 h14 h15 h16 h19 hf hp hrange
          simp only [List.drop_succ_cons, List.drop_zero]
          rw [show vals 18 = .int .i64 (a + f - n) from f18]
          have hSx := Lib.hid (hS'.out.mono hb)
          have hsx : Hid (w.heap.size + 1 ≤ x.heap.size) := Lib.hid (Nat.le_trans hwr hb.size)
          clear f17 f18 n0 nf y0 y1 g0 g1 g2 zG zq kL
          obtain ⟨n0, nf⟩ := hSx.out.now.cell (k := k) (by rw [midC_len]; exact hkl)
          have zq := hSx.out.now.lt
          go_wp2
          refine OnlyN.mk ?_
          go_wp2
          refine ⟨⟨k + 1, by omega, by go_num, ?_, by simp only [World.setCell, Array.size_modify]; exact hsx.out⟩, by simp [intOf]; omega⟩
          rw [← hnx.out]
          exact hSx.out.next hqB hkl
        · obtain rfl : k = xs.length := by omega
          have hLl : Hid ((rowC g xs ys (d + 1)).length = xs.length) := Lib.hid rowC_len
          have hnow := hS.now
          rw [midC_n] at hnow
          obtain ⟨⟨ss, hss1, hss2, hss3⟩, hfar⟩ := hS.out
          have hcell : ∀ k i u, k < (rowC g xs ys (d + 1)).length → (intEnc ((rowC g xs ys (d + 1)).getD k 0))[i]? = some u → wr.cell? ⟨q, 0 + k * 1 + i, none⟩ = some u := by
            intro k i u hk hu
            have hc := (hnow.cell hk).1
            match i, hu with
            | 0, hu => cases hu; rw [Nat.zero_add, Nat.mul_one, Nat.add_zero]; exact hc
            | i + 1, hu => simp at hu
          have hqlt := hnow.lt
          have hcl : Hid ((conL g xs ys d).length = d) := Lib.hid conL_len
          have hcs := conL_succ (g := g) (xs := xs) (ys := ys) (d := d)
          have hnext : Hid (midC g xs ys (d + 1) 0 = rowC g xs ys (d + 1)) := Lib.hid midC_0
          have hgs := hS.gs
          have hbel := hS.bel
          have hrow0 : (rowC g xs ys (d + 1)).length ≤ 1000000 := by have := hLl.out; omega
          have hssl : ss.length ≤ 1000000 := by have := hcl.out; omega
          replace hcs := Lib.hid hcs
          replace hss2 := Lib.hid hss2
          generalize rowC g xs ys (d + 1) = L at *
          have hnow' := Lib.hid hnow
          clear hS hnow
          obtain ⟨va, vc, hvv⟩ := hss1.slice
          subst hvv
          go_wp2_with (first
            | (at_builtin; refine wpList_app_all (enc := intEnc) intEnc_len 0 38 3 _ 8 Try.underlying38 infoInt rfl (by omega) (by omega) intEnc_one (by rfl) _ _ (by rfl) (w.heap.size + 1) wr (.slice none 0 0) [] L (by rfl) (OwnSt.nil _ _ _ _ _) _ _ _ (by rw [hLl.out]; rfl) hcell (by simp) hrow0 hwr ?_; intro v2 w2 ho2 hg2 hat2; rw [List.nil_append] at ho2; obtain ⟨a2, c2, he2⟩ := ho2.slice; subst he2; have hB2 : Below wr.heap.size wr w2 := ⟨hg2.os, hg2.tape, hg2.output, hg2.size, fun b hb => hg2.block b hb (by simp [Value.ownBlock])⟩)
            | (at_builtin; refine wpList_app_st (enc := slEnc) slEnc_len 66 38 _ 24 Try.underlying66 infoSl rfl (by omega) (by omega) slEnc_one (by rfl) _ _ (by rfl) (w.heap.size + 1) w2 (.slice va ss.length vc) ss ⟨a2, L.length, c2⟩ (by rfl) (hss1.mono hB2) (by rfl) hssl (Nat.le_trans hwr hB2.size) ?_; intro v3 w3 ho3 hg3 hat3))
          have hfresh : ∀ k, (slV ⟨a2, L.length, c2⟩).ownBlock = some k → k = wr.heap.size := by
            intro k e
            rcases hat2 with e' | e'
            · rw [e'] at e; cases e
            · rw [e'] at e; cases e; rfl
          have hvlt : ∀ k, (Value.slice va ss.length vc).ownBlock = some k → k < wr.heap.size := fun k e => (hss1.lt k e).2
          refine ⟨⟨d + 1, _, by omega, rfl, by go_num, ⟨?_, ?_, ?_, ?_⟩, Nat.le_trans hwr (Nat.le_trans hB2.size hg3.size)⟩, by simp [intOf]; omega⟩
          · exact (hg3.block _ (Nat.lt_of_lt_of_le (Array.getElem?_eq_some_iff.1 hgs).1 hB2.size) (fun e => by have := (hss1.lt _ e.symm).1; omega)).trans (kept_block hB2 hgs)
          · rw [hnext.out]
            exact (hnow'.out.mono hB2).same (hg3.block _ (Nat.lt_of_lt_of_le hqlt hB2.size) (fun e => hfar q e.symm rfl))
          · rw [hcs.out]
            refine OwnRs.app (s := ⟨a2, L.length, c2⟩) (hss1.mono hB2) hss2.out (fun i hi => ⟨(hss3 i hi).1.mono hB2, (hss3 i hi).2⟩) hfar ho2 (fun k e => ?_) ho3 hg3 hat3 (fun k hk => ?_)
            · have hk := hfresh k e
              exact ⟨fun e' => by have := hvlt k e'; omega, by omega⟩
            · have := hB2.size; omega
          · exact (below_tr hbel hB2).grown hg3 (Nat.le_trans (Nat.le_of_lt (Array.getElem?_eq_some_iff.1 hgs).1) hB2.size) (fun k e => by have := (hss1.lt k e).1; omega)
    · obtain rfl : d = ys.length := by omega
      have hfin := Lib.hid (hH.out.1.out.at intEnc_len 0)
      have hbf := Lib.hid hH.out.1.bel
      clear hH
      go_wp2
      go_ret
      exact ⟨hbf.out, _, rfl, hfin.out⟩
end Go.Proofs.Ytddmfkhmhdddeaa
