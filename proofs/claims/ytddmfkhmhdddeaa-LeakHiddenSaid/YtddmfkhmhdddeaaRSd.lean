/- Walks: the book of what the meters of a watch say (the law's helper said). -/
import Derived.Test.YtddmfkhmhdddeaaSai
import Derived.Test.YtddmfkhmhdddeaaApm
import Derived.Test.YtddmfkhmhdddeaaRws
import Derived.Test.YtddmfkhmhdddeaaLoc
import Derived.Test.YtddmfkhmhdddeaaKno
import Derived.Deep.Cut
set_option linter.unusedVariables false
set_option linter.unusedSimpArgs false
namespace Lk
def sdF (w : List Dy) (fl wrg : List Int) (n : Nat) : List (List Sp) := (List.range n).map fun d => [sdFlow w fl wrg d]
def sdR (w : List Dy) (first : Int) (fl : List Int) (size since : Int) (wrg : List Int) (n : Nat) : List Rd := (List.range n).filterMap fun d => if (dyAt w d).reads then some (sdRead w first fl wrg size since d) else none
theorem sdF_succ {w : List Dy} {fl wrg : List Int} {n : Nat} : sdF w fl wrg (n + 1) = sdF w fl wrg n ++ [[sdFlow w fl wrg n]] := by simp [sdF, List.range_succ]
theorem sdR_yes {w : List Dy} {first : Int} {fl : List Int} {size since : Int} {wrg : List Int} {n : Nat} (h : (dyAt w n).reads = true) : sdR w first fl size since wrg (n + 1) = sdR w first fl size since wrg n ++ [sdRead w first fl wrg size since n] := by simp [sdR, List.range_succ, h]
theorem sdR_no {w : List Dy} {first : Int} {fl : List Int} {size since : Int} {wrg : List Int} {n : Nat} (h : (dyAt w n).reads = false) : sdR w first fl size since wrg (n + 1) = sdR w first fl size since wrg n := by simp [sdR, List.range_succ, h]
theorem sdR_len {w : List Dy} {first : Int} {fl : List Int} {size since : Int} {wrg : List Int} : ∀ n, (sdR w first fl size since wrg n).length ≤ n
  | 0 => by simp [sdR]
  | n + 1 => by
    have := sdR_len (w := w) (first := first) (fl := fl) (size := size) (since := since) (wrg := wrg) n
    cases h : (dyAt w n).reads
    · rw [sdR_no h]; omega
    · rw [sdR_yes h, List.length_append]; simp; omega
end Lk
namespace Go.Proofs.Ytddmfkhmhdddeaa
open Go.RowKit Go.Sd Lk

theorem OwnRs.rebad {α : Type} {enc : α → List Value} {m : Nat} {R E : TypeId} {B : Nat} {w : World} {v : Value} {rows : List (List α)} {bad bad' : Nat → Prop} (h : OwnRs R E m enc B bad w v rows) (hb : ∀ k, k < w.heap.size → bad' k → bad k) : OwnRs R E m enc B bad' w v rows := by
  obtain ⟨⟨ss, h1, h2, h3⟩, h4⟩ := h
  exact ⟨⟨ss, h1, h2, fun i hi => ⟨(h3 i hi).1, fun k e => ⟨((h3 i hi).2 k e).1, fun hk => ((h3 i hi).2 k e).2 (hb k ((h3 i hi).1.lt k e).2 hk)⟩⟩⟩, fun k e hk => h4 k e (hb k (h1.lt k e).2 hk)⟩
/-- A fresh block with one element is a slice of one's own. -/
theorem own_oneS {α : Type} {enc : α → List Value} {m : Nat} {E : TypeId} {B : Nat} {w : World} {bl : Nat} (x : α) (hm : (enc x).length = m) (hB : B ≤ bl) (h : w.heap[bl]? = some (.cells (enc x).toArray E)) : OwnSt E m enc B w (.slice (some ⟨bl, 0, none⟩) 1 1) [x] := by
  refine ⟨by simp [hm], .inr ⟨bl, 1, (enc x).toArray, rfl, hB, h, Nat.le_refl _, by simp [maxLen], by simp [hm], ?_⟩⟩
  simp only [List.flatMap_cons, List.flatMap_nil, List.append_nil, List.length_singleton, Nat.one_mul]
  exact List.take_of_length_le (by omega)
/-- A fresh block that holds one thing, as a slice of one element. -/
def SlIs (L : Nat) (cs : List Value) (E : TypeId) : Value → World → Prop := fun v x => ∃ bl, v = .slice (some ⟨bl, 0, none⟩) 1 1 ∧ L ≤ bl ∧ x.heap[bl]? = some (.cells cs.toArray E)
theorem pers_sl (L : Nat) (cs : List Value) (E : TypeId) : Pers (SlIs L cs E) := fun v w w' hb h => by
  obtain ⟨bl, h1, h2, h3⟩ := h
  exact ⟨bl, h1, h2, kept_block hb h3⟩

/-- A fresh block that holds one slice of one element. -/
def SlIs2 (L : Nat) (cs : List Value) (E E2 : TypeId) : Value → World → Prop := fun v x => ∃ b2 b1, v = .slice (some ⟨b2, 0, none⟩) 1 1 ∧ L ≤ b2 ∧ L ≤ b1 ∧ x.heap[b2]? = some (.cells #[.slice (some ⟨b1, 0, none⟩) 1 1] E2) ∧ x.heap[b1]? = some (.cells cs.toArray E)
theorem pers_sl2 (L : Nat) (cs : List Value) (E E2 : TypeId) : Pers (SlIs2 L cs E E2) := fun v w w' hb h => by
  obtain ⟨b2, b1, h1, h2, h3, h4, h5⟩ := h
  exact ⟨b2, b1, h1, h2, h3, kept_block hb h4, kept_block hb h5⟩
theorem infoSlS : (Try.prog.info? 22).map (fun i => (i.zero, i.size, i.bytes)) = some (some (.slice none 0 0), 1, 24) := by kernel_rfl

/-- What stands in the rounds. -/
structure SdSt (W2 : World) (f0 : Value) (F : List (List Sp)) (R : List Rd) (wv rv : Value) (X : World) : Prop where
  box : X.heap[W2.heap.size]? = some (bkA f0 wv rv)
  flows : OwnRs 22 55 2 spEnc (W2.heap.size + 1) (fun k => rv.ownBlock = some k) X wv F
  reads : OwnRds (W2.heap.size + 1) X rv R
  bel : Below W2.heap.size W2 X
  size : W2.heap.size + 1 ≤ X.heap.size

theorem SdSt.mono {W2 : World} {f0 : Value} {F : List (List Sp)} {R : List Rd} {wv rv : Value} {X Y : World} (h : SdSt W2 f0 F R wv rv X) (hb : Below X.heap.size X Y) : SdSt W2 f0 F R wv rv Y :=
  ⟨kept_block hb h.box, h.flows.mono hb, h.reads.mono hb, below_tr h.bel hb, Nat.le_trans h.size hb.size⟩
/-- Behind an append to the flows and its store. -/
theorem SdSt.flow {W2 : World} {f0 : Value} {F : List (List Sp)} {R : List Rd} {wv rv : Value} {X Z : World} {w3 : Value} {x : List Sp} (h : SdSt W2 f0 F R wv rv X) (hg : X.grownBy Z wv.ownBlock)
    (ho : OwnRs 22 55 2 spEnc (W2.heap.size + 1) (fun k => rv.ownBlock = some k) Z w3 (F ++ [x])) (hne : ∀ k, wv.ownBlock = some k → W2.heap.size + 1 ≤ k) (hfar : ∀ k, wv.ownBlock = some k → rv.ownBlock ≠ some k) :
    SdSt W2 f0 (F ++ [x]) R w3 rv (Z.setCell ⟨W2.heap.size, 1, none⟩ w3) := by
  have hbox : Z.heap[W2.heap.size]? = some (bkA f0 wv rv) := (hg.block _ (Array.getElem?_eq_some_iff.1 h.box).1 (fun e => by have := hne _ e.symm; omega)).trans h.box
  have hr : OwnRds (W2.heap.size + 1) Z rv R := h.reads.kept hg (by
    cases hrv : rv.ownBlock with
    | none => exact .inl rfl
    | some k => exact .inr fun e => hfar k e.symm hrv)
  have hs := set_one hbox 1 w3
  simp only [List.setIfInBounds_toArray, List.set_cons_succ, List.set_cons_zero] at hs
  have hB : Below W2.heap.size W2 Z := h.bel.grown hg (Nat.le_of_succ_le h.size) (fun k e => Nat.le_of_succ_le (hne k e))
  refine ⟨hs, ho.kept (S := fun k => k ≠ W2.heap.size) ((Kept.refl _ _).setCell (p := ⟨W2.heap.size, 1, none⟩) (.inl fun h => h rfl) _) (fun k hk _ => by omega), OwnSt.cellset hr (p := ⟨W2.heap.size, 1, none⟩) (Nat.lt_succ_self _) _, hB.setCell (p := ⟨W2.heap.size, 1, none⟩) (Nat.le_refl _) _, ?_⟩
  simp only [World.setCell, Array.size_modify]; exact Nat.le_trans h.size hg.size
/-- Behind an append to the readings and its store. -/
theorem SdSt.read {W2 : World} {f0 : Value} {F : List (List Sp)} {R : List Rd} {wv rv : Value} {X Z : World} {r3 : Value} {x : Rd} (h : SdSt W2 f0 F R wv rv X) (hg : X.grownBy Z rv.ownBlock) (ho : OwnRds (W2.heap.size + 1) Z r3 (R ++ [x]))
    (hat : r3.ownBlock = rv.ownBlock ∨ r3.ownBlock = some X.heap.size) : SdSt W2 f0 F (R ++ [x]) wv r3 (Z.setCell ⟨W2.heap.size, 2, none⟩ r3) := by
  have hne : ∀ k, rv.ownBlock = some k → W2.heap.size + 1 ≤ k := fun k e => (h.reads.lt k e).1
  have hbox : Z.heap[W2.heap.size]? = some (bkA f0 wv rv) := (hg.block _ (Array.getElem?_eq_some_iff.1 h.box).1 (fun e => by have := hne _ e.symm; omega)).trans h.box
  have hbad : ∀ k, k < X.heap.size → (rv.ownBlock = some k ∨ r3.ownBlock = some k) → rv.ownBlock = some k := fun k hk e => by
    rcases e with e | e
    · exact e
    · rcases hat with e' | e'
      · rw [← e']; exact e
      · rw [e'] at e; cases e; omega
  have hf0 := (h.flows.rebad hbad).kept (S := fun k => rv.ownBlock ≠ some k) (Kept.grown hg (fun k _ hk e => hk e.symm)) (fun k _ hk e => hk (.inl e))
  have hf1 : OwnRs 22 55 2 spEnc (W2.heap.size + 1) (fun k => r3.ownBlock = some k) Z wv F := hf0.rebad fun k _ e => .inr e
  have hs := set_one hbox 2 r3
  simp only [List.setIfInBounds_toArray, List.set_cons_succ, List.set_cons_zero] at hs
  have hB : Below W2.heap.size W2 Z := h.bel.grown hg (Nat.le_of_succ_le h.size) (fun k e => Nat.le_of_succ_le (hne k e))
  refine ⟨hs, hf1.kept (S := fun k => k ≠ W2.heap.size) ((Kept.refl _ _).setCell (p := ⟨W2.heap.size, 2, none⟩) (.inl fun h => h rfl) _) (fun k hk _ => by omega), OwnSt.cellset ho (p := ⟨W2.heap.size, 2, none⟩) (Nat.lt_succ_self _) _, hB.setCell (p := ⟨W2.heap.size, 2, none⟩) (Nat.le_refl _) _, ?_⟩
  simp only [World.setCell, Array.size_modify]; exact Nat.le_trans h.size hg.size

set_option maxRecDepth 100000 in
set_option maxHeartbeats 4000000 in
theorem lawSaid (lv : Value) (l : List Dy) (first : Int) (fv : Value) (fl : List Int) (size since : Int) (gv : Value) (wrg : List Int) (last : Nat) (w : World) (hl : DysAt w lv l) (hf : IntsAt w fv fl) (hg : IntsAt w gv wrg)
    (hfl : fl.length = l.length) (hgl : wrg.length = l.length) (hok : SaidOk l first fl size since wrg (last + 1)) (hwb : ∀ d, d < l.length → -100000000 ≤ at0 wrg d ∧ at0 wrg d ≤ 100000000) :
    Calls Try.prog 42 #[lv, .int .i64 first, fv, .int .i64 size, .int .i64 since, gv, .int .i64 last] w fun e w' => ∃ a c r, e = .returned (bkV a c r) ∧ Below w.heap.size w w' ∧ BookAt w' a c r (saidB l first fl size since wrg (last + 1)) := by
  obtain ⟨W1, hW1⟩ : ∃ W1, w.alloc (bkA (.slice none 0 0) (.slice none 0 0) (.slice none 0 0)) = W1 := ⟨_, rfl⟩
  obtain ⟨W2, hW2⟩ : ∃ W2, W1.alloc (spO ⟨-1000000000, 1000000000⟩) = W2 := ⟨_, rfl⟩
  obtain ⟨W3, hW3⟩ : ∃ W3, W2.alloc (bkA (.slice (some ⟨W1.heap.size, 0, none⟩) 1 1) (.slice none 0 0) (.slice none 0 0)) = W3 := ⟨_, rfl⟩
  obtain ⟨e0, b0, s0⟩ := boxed hW1
  obtain ⟨e1, b1, s1⟩ := boxed hW2
  obtain ⟨e2, b2, s2⟩ := boxed hW3
  have B2 := below_tr b0 b1
  have hlt0 : Hid (w.heap.size < W2.heap.size) := Lib.hid (by omega)
  have hlt1 : Hid (w.heap.size < W1.heap.size) := Lib.hid (by omega)
  have hE0 := Lib.hid (kept_block b1 e0)
  have hE1 := Lib.hid e1
  have hB2 := Lib.hid B2
  have hl2 := Lib.hid (hl.mono B2)
  have hf2 := Lib.hid (hf.mono B2)
  have hg2 := Lib.hid (hg.mono B2)
  have hS0 : Hid (SdSt W2 (.slice (some ⟨W1.heap.size, 0, none⟩) 1 1) (sdF l fl wrg 0) (sdR l first fl size since wrg 0) (.slice none 0 0) (.slice none 0 0) W3) := Lib.hid ⟨e2, OwnRs.nil, OwnSt.nil _ _ _ _ _, b2, by omega⟩
  obtain ⟨la, lc, rfl, hlm, -⟩ := hl.form
  obtain ⟨fa, fc, rfl, hfm, -⟩ := hf.form
  obtain ⟨ga, gc, rfl, hgm, -⟩ := hg.form
  have hn := hok.n
  have hokh := Lib.hid hok
  have hwbh := Lib.hid hwb
  have hflh := Lib.hid hfl
  have hglh := Lib.hid hgl
  replace hW3 := Lib.hid hW3
  clear hl hf hg s0 s1 s2 e0 e1 e2 b0 b1 b2 B2 hok hwb hfl hgl
  go_enter Try.func42, Try.ntmps42
  go_upto_region 2 with fail
  rw [hW3.out]
  clear hW1 hW2 hW3
  go_wp2_with fail
  go_loopw [16, 17] (fun nw i wr => ∃ (d : Nat) (wv rv : Value), d ≤ last + 1 ∧ i = .int .i64 d ∧ nw = .int .i64 (nowT first fl size since d) ∧ Hid (SdSt W2 (.slice (some ⟨W1.heap.size, 0, none⟩) 1 1) (sdF l fl wrg d) (sdR l first fl size since wrg d) wv rv wr)) (fun _ i _ => last + 1 - (intOf i).toNat)
  case atStart => exact ⟨0, _, _, by omega, rfl, rfl, hS0.out⟩
  case round =>
    obtain ⟨d, wv, rv, hd, rfl, rfl, hG⟩ := hrel
    clear hS0
    by_cases hdl : d < last + 1
    · have hdi : (d : Int) ≤ (last : Int) := by omega
      have hdl2 : d < l.length := by omega
      have hnb := nowT_bd hokh.out d (by omega)
      have hfb := hokh.out.flows d hdl
      have hnx : Hid (nowT first fl size since (d + 1) = nowT first fl size since d + at0 fl d - leaks size since d) := Lib.hid rfl
      have hsz := hokh.out.size
      have hday := hokh.out.wok.day d hdl2
      have hgb := hwbh.out d hdl2
      obtain ⟨c1, p1, m1, hv1, hc1, -, x0⟩ := int_cells hf2.out (k := d) (by rw [hflh.out]; exact hdl2)
      obtain ⟨rfl, rfl⟩ : fa = some ⟨c1, p1, none⟩ ∧ fc = m1 := by simpa using hv1
      have x0' := kept_cell hG.out.bel x0
      have hc1' := Nat.lt_of_lt_of_le hc1 hG.out.bel.size
      have hdf : (d : Int) < (fl.length : Int) := by rw [hflh.out]; omega
      have hlk : leaks size since d = if since ≤ (d : Int) then size else 0 := rfl
      have hcd : Hid (∀ U, Below W2.heap.size W2 U → ∃ bb off cap, (.slice la l.length lc : Value) = .slice (some ⟨bb, off, none⟩) l.length cap) := Lib.hid fun U h => by
        obtain ⟨a, cap, hv, hm, hc⟩ := hl2.out
        obtain ⟨bb, off, rfl, -, -⟩ := hc (by omega)
        exact ⟨bb, off, cap, hv⟩
      have hnb2 : -1000000000 ≤ nowT first fl size since (d + 1) ∧ nowT first fl size since (d + 1) ≤ 1000000000 := by have := nowT_bd hokh.out (d + 1) (by omega); push_cast at this; omega
      generalize hNe : nowT first fl size since (d + 1) = N at *
      generalize nowT first fl size since d = a at *
      have hfe : at0 fl d = at0 fl d := rfl
      by_cases hsd : since ≤ (d : Int)
      · have d1 : decide (since ≤ (d : Int)) = true := decide_eq_true hsd
        rw [if_pos hsd] at hlk
        have hN2 : a + at0 fl d - size = N := by rw [hnx.out, hlk]
        have hN3 := Lib.hid hN2
        clear hN2 hlk hsd
        go_upto_region 9 with fail
        rw [hN3.out]
        obtain ⟨c2, p2, m2, hv2, hc2, -, x2⟩ := int_cells hg2.out (k := d) (by rw [hglh.out]; exact hdl2)
        obtain ⟨rfl, rfl⟩ : ga = some ⟨c2, p2, none⟩ ∧ gc = m2 := by simpa using hv2
        obtain ⟨da, dc, hv3, hm3, hc3⟩ := hl2.out
        obtain ⟨bb, off, rfl, hbb, hcells⟩ := hc3 (by omega)
        obtain ⟨rfl, rfl⟩ : la = some ⟨bb, off, none⟩ ∧ lc = dc := by simpa using hv3
        have s0 : W2.cell? ⟨bb, off + d * 3, none⟩ = some (.int .i64 (dyAt l d).flow) := hcells d 0 _ hdl2 rfl
        have s1 : W2.cell? ⟨bb, off + d * 3 + 1, none⟩ = some (.bool (dyAt l d).reads) := hcells d 1 _ hdl2 rfl
        have s2 : W2.cell? ⟨bb, off + d * 3 + 2, none⟩ = some (.int .i64 (dyAt l d).content) := hcells d 2 _ hdl2 rfl
        have hdg : (d : Int) < (wrg.length : Int) := by rw [hglh.out]; omega
        have hdl3 : (d : Int) < (l.length : Int) := by omega
        have hF := Lib.hid (sdF_succ (w := l) (fl := fl) (wrg := wrg) (n := d))
        have hRy := Lib.hid (fun h => sdR_yes (w := l) (first := first) (fl := fl) (size := size) (since := since) (wrg := wrg) (n := d) h)
        have hRn := Lib.hid (fun h => sdR_no (w := l) (first := first) (fl := fl) (size := size) (since := since) (wrg := wrg) (n := d) h)
        have hFl : Hid ((sdF l fl wrg d).length = d) := Lib.hid (by simp [sdF])
        have hRl := sdR_len (w := l) (first := first) (fl := fl) (size := size) (since := since) (wrg := wrg) d
        unfold sdFlow at hF
        unfold sdRead at hRy
        rw [hNe] at hRy
        clear hv2 hv3 hm3 hc3 hcells
        generalize sdF l fl wrg d = FF at *
        generalize sdR l first fl size since wrg d = RR at *
        generalize hFe : sdF l fl wrg (d + 1) = FF' at *
        generalize hRe : sdR l first fl size since wrg (d + 1) = RR' at *
        replace hFe := Lib.hid hFe
        replace hRe := Lib.hid hRe
        replace hNe := Lib.hid hNe
        generalize dyAt l d = y at *
        generalize at0 fl d = f at *
        generalize at0 wrg d = gq at *
        obtain ⟨yf, yr, yc⟩ := y
        simp only at s0 s1 s2 hday
        have kT := Lib.hid (fun gg : Grow wr => (lawBent gq yf gg.x (by omega)).mono (fun e w' (h : e = .returned (.int .i64 (bentI gq yf)) ∧ gg.x = w') => (⟨h.1, by rw [← h.2]; exact Below.refl _ _⟩ : e = .returned (.int .i64 (bentI gq yf)) ∧ Below gg.x.heap.size gg.x w')))
        have kT2 := Lib.hid (fun (X : World) => lawBent (gq.tdiv 7) yc X (by omega))
        have hbn : -10000000 ≤ bentI gq yf ∧ bentI gq yf ≤ 10000000 := by unfold bentI; omega
        have hbn2 : -10000000 ≤ bentI (gq.tdiv 7) yc ∧ bentI (gq.tdiv 7) yc ≤ 10000000 := by unfold bentI; omega
        have hG0 := hG.out
        have t0 := kept_cell hG0.bel s0
        have t1 := kept_cell hG0.bel s1
        have t2 := kept_cell hG0.bel s2
        have t3 := kept_cell hG0.bel x0
        have t4 := kept_cell hG0.bel x2
        have z0 := Nat.lt_of_lt_of_le hbb hG0.bel.size
        have z3 := Nat.lt_of_lt_of_le hc1 hG0.bel.size
        have z4 := Nat.lt_of_lt_of_le hc2 hG0.bel.size
        clear x0' hc1'
        have hgW := grow_cell wr
        refine wp_region_grow (by kernel_rfl) (by kernel_rfl) ?_
        repeat (go_big_quiet_step ((first | (with_reducible exact Calls.grow (kT.out _)))))
        refine wpQuiet_nil ?_
        rintro _ ⟨g, rfl⟩
        clear hgW t0 t1 t2 t3 t4 z0 z3 z4
        have hYb := g.h
        generalize g.x = Y at *
        have hGY := hG0.mono hYb
        clear hG hG0 hYb kT
        have hF2 : Hid (FF' = FF ++ [[⟨f + bentI gq yf - yf, f + bentI gq yf + yf⟩]]) := Lib.hid hF.out
        have hRy2 : Hid (yr = true → RR' = RR ++ [⟨d, 0, ⟨N + bentI (gq.tdiv 7) yc - yc, N + bentI (gq.tdiv 7) yc + yc⟩⟩]) := Lib.hid fun h => hRy.out h
        have hRn2 : Hid (yr = false → RR' = RR) := Lib.hid fun h => hRn.out h
        clear hF hRy hRn
        generalize bentI gq yf = bn at *
        obtain ⟨⟨ss, hs1, hs2, hs3⟩, hfar⟩ := hGY.flows
        obtain ⟨va, vc, rfl⟩ := hs1.slice
        obtain ⟨ra, rc, rfl⟩ := hGY.reads.slice
        obtain ⟨o0, o1, o2⟩ := rc3 hGY.box
        have zo := (Array.getElem?_eq_some_iff.1 hGY.box).1
        have t0 := kept_cell hGY.bel s0
        have z0 := Nat.lt_of_lt_of_le hbb hGY.bel.size
        have hssl : ss.length ≤ 30 := by
          rw [hs2]; have := hFl.out; omega
        have hGYh := Lib.hid hGY
        replace hs2 := Lib.hid hs2
        clear hGY
        go_upto_region 10 with fail
        refine plain_region (by kernel_rfl) (any_region_locN 19 118 [] [56, 57, 58, 59, 60, 61, 62, 63, 64, 65, 66, 67, 68, 69, 70, 71, 72, 73, 74] [[], [0], [], [], [], [3, 4], [5], [6], [2, 7], [], [], [], [10, 11], [12], [13], [9, 14], [8, 15], [16], [17]] [IsV (.pointer (some ⟨W2.heap.size, 1, none⟩)), IsV (.slice va ss.length vc), IsV (.int .i64 (f + bn)), IsV (.slice (some ⟨bb, off, none⟩) l.length lc), IsV (.int .i64 d), IsV (.pointer (some ⟨bb, off + d * 3, none⟩)), IsV (.pointer (some ⟨bb, off + d * 3, none⟩)), IsV (.int .i64 yf), IsV (.int .i64 (f + bn - yf)), IsV (.int .i64 (f + bn)), IsV (.slice (some ⟨bb, off, none⟩) l.length lc), IsV (.int .i64 d), IsV (.pointer (some ⟨bb, off + d * 3, none⟩)), IsV (.pointer (some ⟨bb, off + d * 3, none⟩)), IsV (.int .i64 yf), IsV (.int .i64 (f + bn + yf)), IsV (.agg #[.int .i64 (f + bn - yf), .int .i64 (f + bn + yf)]), SlIs Y.heap.size [.int .i64 (f + bn - yf), .int .i64 (f + bn + yf)] 55, SlIs2 Y.heap.size [.int .i64 (f + bn - yf), .int .i64 (f + bn + yf)] 55 22] [] (by kernel_rfl) (by kernel_rfl) (by kernel_rfl) (by kernel_rfl) (by kernel_rfl) rfl OnlyN.panic ?_ ?_ ?_ (fun j hj => nomatch hj) ?_)
        · exact List.forall_mem_cons.2 ⟨pers_v _, List.forall_mem_cons.2 ⟨pers_v _, List.forall_mem_cons.2 ⟨pers_v _, List.forall_mem_cons.2 ⟨pers_v _, List.forall_mem_cons.2 ⟨pers_v _, List.forall_mem_cons.2 ⟨pers_v _, List.forall_mem_cons.2 ⟨pers_v _, List.forall_mem_cons.2 ⟨pers_v _, List.forall_mem_cons.2 ⟨pers_v _, List.forall_mem_cons.2 ⟨pers_v _, List.forall_mem_cons.2 ⟨pers_v _, List.forall_mem_cons.2 ⟨pers_v _, List.forall_mem_cons.2 ⟨pers_v _, List.forall_mem_cons.2 ⟨pers_v _, List.forall_mem_cons.2 ⟨pers_v _, List.forall_mem_cons.2 ⟨pers_v _, List.forall_mem_cons.2 ⟨pers_v _, List.forall_mem_cons.2 ⟨pers_sl _ _ _, List.forall_mem_cons.2 ⟨pers_sl2 _ _ _ _, fun f h => nomatch h⟩⟩⟩⟩⟩⟩⟩⟩⟩⟩⟩⟩⟩⟩⟩⟩⟩⟩⟩
        · intro k hk; cases hk
        · refine ⟨?_, ?_, ?_, ?_, ?_, ?_, ?_, ?_, ?_, ?_, ?_, ?_, ?_, ?_, ?_, ?_, ?_, ?_, ?_, trivial⟩
          · intro vals x hb hf
            simp only [fillS, List.getD_cons_succ, List.getD_cons_zero, Act.put, List.setIfInBounds_toArray, List.set_cons_zero, List.set_cons_succ]
            clear hf
            have w0 := kept_cell hb t0
            have w1 := kept_cell hb o1
            have wz := Nat.lt_of_lt_of_le z0 hb.size
            have wo := Nat.lt_of_lt_of_le zo hb.size
            go_wp2
            exact ⟨rfl, rfl, Below.refl _ _, _, rfl, rfl, (fun h => absurd h (by decide))⟩
          · intro vals x hb hf
            simp only [fillS, List.getD_cons_succ, List.getD_cons_zero, Act.put, List.setIfInBounds_toArray, List.set_cons_zero, List.set_cons_succ]
            have h0 : vals 0 = .pointer (some ⟨W2.heap.size, 1, none⟩) := hf.1
            rw [h0]
            clear h0
            clear hf
            have w0 := kept_cell hb t0
            have w1 := kept_cell hb o1
            have wz := Nat.lt_of_lt_of_le z0 hb.size
            have wo := Nat.lt_of_lt_of_le zo hb.size
            go_wp2
            exact ⟨rfl, rfl, Below.refl _ _, _, rfl, rfl, (fun h => absurd h (by decide))⟩
          · intro vals x hb hf
            simp only [fillS, List.getD_cons_succ, List.getD_cons_zero, Act.put, List.setIfInBounds_toArray, List.set_cons_zero, List.set_cons_succ]
            clear hf
            have w0 := kept_cell hb t0
            have w1 := kept_cell hb o1
            have wz := Nat.lt_of_lt_of_le z0 hb.size
            have wo := Nat.lt_of_lt_of_le zo hb.size
            go_wp2
            exact ⟨rfl, rfl, Below.refl _ _, _, rfl, rfl, (fun h => absurd h (by decide))⟩
          · intro vals x hb hf
            simp only [fillS, List.getD_cons_succ, List.getD_cons_zero, Act.put, List.setIfInBounds_toArray, List.set_cons_zero, List.set_cons_succ]
            clear hf
            have w0 := kept_cell hb t0
            have w1 := kept_cell hb o1
            have wz := Nat.lt_of_lt_of_le z0 hb.size
            have wo := Nat.lt_of_lt_of_le zo hb.size
            go_wp2
            exact ⟨rfl, rfl, Below.refl _ _, _, rfl, rfl, (fun h => absurd h (by decide))⟩
          · intro vals x hb hf
            simp only [fillS, List.getD_cons_succ, List.getD_cons_zero, Act.put, List.setIfInBounds_toArray, List.set_cons_zero, List.set_cons_succ]
            clear hf
            have w0 := kept_cell hb t0
            have w1 := kept_cell hb o1
            have wz := Nat.lt_of_lt_of_le z0 hb.size
            have wo := Nat.lt_of_lt_of_le zo hb.size
            go_wp2
            exact ⟨rfl, rfl, Below.refl _ _, _, rfl, rfl, (fun h => absurd h (by decide))⟩
          · intro vals x hb hf
            simp only [fillS, List.getD_cons_succ, List.getD_cons_zero, Act.put, List.setIfInBounds_toArray, List.set_cons_zero, List.set_cons_succ]
            have h3 : vals 3 = .slice (some ⟨bb, off, none⟩) l.length lc := hf.1
            rw [h3]
            clear h3
            have h4 : vals 4 = .int .i64 d := hf.2.1
            rw [h4]
            clear h4
            clear hf
            have w0 := kept_cell hb t0
            have w1 := kept_cell hb o1
            have wz := Nat.lt_of_lt_of_le z0 hb.size
            have wo := Nat.lt_of_lt_of_le zo hb.size
            go_wp2
            exact ⟨rfl, rfl, Below.refl _ _, _, rfl, rfl, (fun h => absurd h (by decide))⟩
          · intro vals x hb hf
            simp only [fillS, List.getD_cons_succ, List.getD_cons_zero, Act.put, List.setIfInBounds_toArray, List.set_cons_zero, List.set_cons_succ]
            have h5 : vals 5 = .pointer (some ⟨bb, off + d * 3, none⟩) := hf.1
            rw [h5]
            clear h5
            clear hf
            have w0 := kept_cell hb t0
            have w1 := kept_cell hb o1
            have wz := Nat.lt_of_lt_of_le z0 hb.size
            have wo := Nat.lt_of_lt_of_le zo hb.size
            go_wp2
            exact ⟨rfl, rfl, Below.refl _ _, _, rfl, rfl, (fun h => absurd h (by decide))⟩
          · intro vals x hb hf
            simp only [fillS, List.getD_cons_succ, List.getD_cons_zero, Act.put, List.setIfInBounds_toArray, List.set_cons_zero, List.set_cons_succ]
            have h6 : vals 6 = .pointer (some ⟨bb, off + d * 3, none⟩) := hf.1
            rw [h6]
            clear h6
            clear hf
            have w0 := kept_cell hb t0
            have w1 := kept_cell hb o1
            have wz := Nat.lt_of_lt_of_le z0 hb.size
            have wo := Nat.lt_of_lt_of_le zo hb.size
            go_wp2
            exact ⟨rfl, rfl, Below.refl _ _, _, rfl, rfl, (fun h => absurd h (by decide))⟩
          · intro vals x hb hf
            simp only [fillS, List.getD_cons_succ, List.getD_cons_zero, Act.put, List.setIfInBounds_toArray, List.set_cons_zero, List.set_cons_succ]
            have h2 : vals 2 = .int .i64 (f + bn) := hf.1
            rw [h2]
            clear h2
            have h7 : vals 7 = .int .i64 yf := hf.2.1
            rw [h7]
            clear h7
            clear hf
            have w0 := kept_cell hb t0
            have w1 := kept_cell hb o1
            have wz := Nat.lt_of_lt_of_le z0 hb.size
            have wo := Nat.lt_of_lt_of_le zo hb.size
            go_wp2
            exact ⟨rfl, rfl, Below.refl _ _, _, rfl, rfl, (fun h => absurd h (by decide))⟩
          · intro vals x hb hf
            simp only [fillS, List.getD_cons_succ, List.getD_cons_zero, Act.put, List.setIfInBounds_toArray, List.set_cons_zero, List.set_cons_succ]
            clear hf
            have w0 := kept_cell hb t0
            have w1 := kept_cell hb o1
            have wz := Nat.lt_of_lt_of_le z0 hb.size
            have wo := Nat.lt_of_lt_of_le zo hb.size
            go_wp2
            exact ⟨rfl, rfl, Below.refl _ _, _, rfl, rfl, (fun h => absurd h (by decide))⟩
          · intro vals x hb hf
            simp only [fillS, List.getD_cons_succ, List.getD_cons_zero, Act.put, List.setIfInBounds_toArray, List.set_cons_zero, List.set_cons_succ]
            clear hf
            have w0 := kept_cell hb t0
            have w1 := kept_cell hb o1
            have wz := Nat.lt_of_lt_of_le z0 hb.size
            have wo := Nat.lt_of_lt_of_le zo hb.size
            go_wp2
            exact ⟨rfl, rfl, Below.refl _ _, _, rfl, rfl, (fun h => absurd h (by decide))⟩
          · intro vals x hb hf
            simp only [fillS, List.getD_cons_succ, List.getD_cons_zero, Act.put, List.setIfInBounds_toArray, List.set_cons_zero, List.set_cons_succ]
            clear hf
            have w0 := kept_cell hb t0
            have w1 := kept_cell hb o1
            have wz := Nat.lt_of_lt_of_le z0 hb.size
            have wo := Nat.lt_of_lt_of_le zo hb.size
            go_wp2
            exact ⟨rfl, rfl, Below.refl _ _, _, rfl, rfl, (fun h => absurd h (by decide))⟩
          · intro vals x hb hf
            simp only [fillS, List.getD_cons_succ, List.getD_cons_zero, Act.put, List.setIfInBounds_toArray, List.set_cons_zero, List.set_cons_succ]
            have h10 : vals 10 = .slice (some ⟨bb, off, none⟩) l.length lc := hf.1
            rw [h10]
            clear h10
            have h11 : vals 11 = .int .i64 d := hf.2.1
            rw [h11]
            clear h11
            clear hf
            have w0 := kept_cell hb t0
            have w1 := kept_cell hb o1
            have wz := Nat.lt_of_lt_of_le z0 hb.size
            have wo := Nat.lt_of_lt_of_le zo hb.size
            go_wp2
            exact ⟨rfl, rfl, Below.refl _ _, _, rfl, rfl, (fun h => absurd h (by decide))⟩
          · intro vals x hb hf
            simp only [fillS, List.getD_cons_succ, List.getD_cons_zero, Act.put, List.setIfInBounds_toArray, List.set_cons_zero, List.set_cons_succ]
            have h12 : vals 12 = .pointer (some ⟨bb, off + d * 3, none⟩) := hf.1
            rw [h12]
            clear h12
            clear hf
            have w0 := kept_cell hb t0
            have w1 := kept_cell hb o1
            have wz := Nat.lt_of_lt_of_le z0 hb.size
            have wo := Nat.lt_of_lt_of_le zo hb.size
            go_wp2
            exact ⟨rfl, rfl, Below.refl _ _, _, rfl, rfl, (fun h => absurd h (by decide))⟩
          · intro vals x hb hf
            simp only [fillS, List.getD_cons_succ, List.getD_cons_zero, Act.put, List.setIfInBounds_toArray, List.set_cons_zero, List.set_cons_succ]
            have h13 : vals 13 = .pointer (some ⟨bb, off + d * 3, none⟩) := hf.1
            rw [h13]
            clear h13
            clear hf
            have w0 := kept_cell hb t0
            have w1 := kept_cell hb o1
            have wz := Nat.lt_of_lt_of_le z0 hb.size
            have wo := Nat.lt_of_lt_of_le zo hb.size
            go_wp2
            exact ⟨rfl, rfl, Below.refl _ _, _, rfl, rfl, (fun h => absurd h (by decide))⟩
          · intro vals x hb hf
            simp only [fillS, List.getD_cons_succ, List.getD_cons_zero, Act.put, List.setIfInBounds_toArray, List.set_cons_zero, List.set_cons_succ]
            have h9 : vals 9 = .int .i64 (f + bn) := hf.1
            rw [h9]
            clear h9
            have h14 : vals 14 = .int .i64 yf := hf.2.1
            rw [h14]
            clear h14
            clear hf
            have w0 := kept_cell hb t0
            have w1 := kept_cell hb o1
            have wz := Nat.lt_of_lt_of_le z0 hb.size
            have wo := Nat.lt_of_lt_of_le zo hb.size
            go_wp2
            exact ⟨rfl, rfl, Below.refl _ _, _, rfl, rfl, (fun h => absurd h (by decide))⟩
          · intro vals x hb hf
            simp only [fillS, List.getD_cons_succ, List.getD_cons_zero, Act.put, List.setIfInBounds_toArray, List.set_cons_zero, List.set_cons_succ]
            have h8 : vals 8 = .int .i64 (f + bn - yf) := hf.1
            rw [h8]
            clear h8
            have h15 : vals 15 = .int .i64 (f + bn + yf) := hf.2.1
            rw [h15]
            clear h15
            clear hf
            have w0 := kept_cell hb t0
            have w1 := kept_cell hb o1
            have wz := Nat.lt_of_lt_of_le z0 hb.size
            have wo := Nat.lt_of_lt_of_le zo hb.size
            go_wp2
            exact ⟨rfl, rfl, Below.refl _ _, _, rfl, rfl, (fun h => absurd h (by decide))⟩
          · intro vals x hb hf
            simp only [fillS, List.getD_cons_succ, List.getD_cons_zero, Act.put, List.setIfInBounds_toArray, List.set_cons_zero, List.set_cons_succ]
            have h16 : vals 16 = .agg #[.int .i64 (f + bn - yf), .int .i64 (f + bn + yf)] := hf.1
            rw [h16]
            clear h16
            clear hf
            have w0 := kept_cell hb t0
            have w1 := kept_cell hb o1
            have wz := Nat.lt_of_lt_of_le z0 hb.size
            have wo := Nat.lt_of_lt_of_le zo hb.size
            go_wp2
            exact ⟨rfl, rfl, (Below.refl _ _).alloc (Nat.le_refl _) _, _, rfl, ⟨_, rfl, hb.size, World.alloc_heap_new _ _⟩, (fun h => absurd h (by decide))⟩
          · intro vals x hb hf
            simp only [fillS, List.getD_cons_succ, List.getD_cons_zero, Act.put, List.setIfInBounds_toArray, List.set_cons_zero, List.set_cons_succ]
            have f17 : (SlIs Y.heap.size [.int .i64 (f + bn - yf), .int .i64 (f + bn + yf)] 55) (vals 17) x := hf.1
            clear hf
            have w0 := kept_cell hb t0
            have w1 := kept_cell hb o1
            have wz := Nat.lt_of_lt_of_le z0 hb.size
            have wo := Nat.lt_of_lt_of_le zo hb.size
            obtain ⟨b1, hv17, hb1, hbk1⟩ := f17
            rw [hv17]
            go_wp2
            exact ⟨rfl, rfl, (Below.refl _ _).alloc (Nat.le_refl _) _, _, rfl, ⟨_, b1, rfl, hb.size, hb1, World.alloc_heap_new _ _, kept_block ((Below.refl _ _).alloc (Nat.le_refl _) _) hbk1⟩, (fun h => absurd h (by decide))⟩
        intro vals x hb hf hp
        have hrange : List.range 19 = [0, 1, 2, 3, 4, 5, 6, 7, 8, 9, 10, 11, 12, 13, 14, 15, 16, 17, 18] := by rfl
        rw [hrange]
        simp only [fillS, List.getD_cons_succ, List.getD_cons_zero, Act.put, List.setIfInBounds_toArray, List.set_cons_zero, List.set_cons_succ]
        have h0 : vals 0 = .pointer (some ⟨W2.heap.size, 1, none⟩) := hf 0 (by omega)
        have h1 : vals 1 = .slice va ss.length vc := hf 1 (by omega)
        have h2 : vals 2 = .int .i64 (f + bn) := hf 2 (by omega)
        have h3 : vals 3 = .slice (some ⟨bb, off, none⟩) l.length lc := hf 3 (by omega)
        have h4 : vals 4 = .int .i64 d := hf 4 (by omega)
        have h5 : vals 5 = .pointer (some ⟨bb, off + d * 3, none⟩) := hf 5 (by omega)
        have h6 : vals 6 = .pointer (some ⟨bb, off + d * 3, none⟩) := hf 6 (by omega)
        have h7 : vals 7 = .int .i64 yf := hf 7 (by omega)
        have h8 : vals 8 = .int .i64 (f + bn - yf) := hf 8 (by omega)
        have h9 : vals 9 = .int .i64 (f + bn) := hf 9 (by omega)
        have h10 : vals 10 = .slice (some ⟨bb, off, none⟩) l.length lc := hf 10 (by omega)
        have h11 : vals 11 = .int .i64 d := hf 11 (by omega)
        have h12 : vals 12 = .pointer (some ⟨bb, off + d * 3, none⟩) := hf 12 (by omega)
        have h13 : vals 13 = .pointer (some ⟨bb, off + d * 3, none⟩) := hf 13 (by omega)
        have h14 : vals 14 = .int .i64 yf := hf 14 (by omega)
        have h15 : vals 15 = .int .i64 (f + bn + yf) := hf 15 (by omega)
        have h16 : vals 16 = .agg #[.int .i64 (f + bn - yf), .int .i64 (f + bn + yf)] := hf 16 (by omega)
        have f17 : (SlIs Y.heap.size [.int .i64 (f + bn - yf), .int .i64 (f + bn + yf)] 55) (vals 17) x := hf 17 (by omega)
        have f18 : (SlIs2 Y.heap.size [.int .i64 (f + bn - yf), .int .i64 (f + bn + yf)] 55 22) (vals 18) x := hf 18 (by omega)
        rw [h0, h1, h2, h3, h4, h5, h6, h7, h8, h9, h10, h11, h12, h13, h14, h15, h16]
        clear h0 h1 h2 h3 h4 h5 h6 h7 h8 h9 h10 h11 h12 h13 h14 h15 h16 hf hp hrange
        simp only [List.drop_succ_cons, List.drop_zero]
        obtain ⟨b2, b1, hv18, hq2, hq1, hk2, hk1⟩ := f18
        rw [show vals 18 = _ from hv18]
        clear f17 hv18
        generalize vals 17 = v17
        have hGx := hGYh.out.mono hb
        have hcell : ∀ k i u, k < ([⟨some ⟨b1, 0, none⟩, 1, 1⟩] : List Slc).length → (slEnc (([⟨some ⟨b1, 0, none⟩, 1, 1⟩] : List Slc).getD k ⟨none, 0, 0⟩))[i]? = some u → x.cell? ⟨b2, 0 + k * 1 + i, none⟩ = some u := by
          intro k i u hk hu
          obtain rfl : k = 0 := by simpa using hk
          match i, hu with
          | 0, hu => cases hu; exact rc1 hk2
          | i + 1, hu => simp at hu
        have hBx := hGx.size
        have hsx1 := hs1.mono hb
        have hsr : ∀ q, (Value.slice ra RR.length rc).ownBlock = some q → q < Y.heap.size := fun q e => (hGYh.out.reads.lt q e).2
        have hsw : ∀ q, (Value.slice va ss.length vc).ownBlock = some q → q < Y.heap.size := fun q e => (hs1.lt q e).2
        have hxs := hb.size
        have hbxx := hGx.box
        go_wp2_with (at_builtin; refine wpList_app_all (enc := slEnc) slEnc_len ⟨none, 0, 0⟩ 23 22 _ 24 Try.underlying23 infoSlS rfl (by omega) (by omega) slEnc_one (by rfl) _ _ (by rfl) (W2.heap.size + 1) x (.slice va ss.length vc) ss [⟨some ⟨b1, 0, none⟩, 1, 1⟩] (by rfl) hsx1 b2 0 1 (by rfl) hcell (by omega) (by simp) hBx ?_; intro v3 w3 ho3 hg3 hat3; obtain ⟨a3, c3, he3⟩ := ho3.slice; rw [show (ss ++ [(⟨some ⟨b1, 0, none⟩, 1, 1⟩ : Slc)]).length = ss.length + 1 by simp] at he3; subst he3; have hbx3 : w3.heap[W2.heap.size]? = some (bkA (.slice (some ⟨W1.heap.size, 0, none⟩) 1 1) (.slice va ss.length vc) (.slice ra RR.length rc)) := (hg3.block _ (Array.getElem?_eq_some_iff.1 hbxx).1 (fun e => by have := (hsx1.lt _ e.symm).1; omega)).trans hbxx; obtain ⟨p0, p1, p2⟩ := rc3 hbx3; obtain ⟨k0, k1, k2⟩ := rf3 hbx3; have zx := (Array.getElem?_eq_some_iff.1 hbx3).1)
        refine OnlyN.mk ?_
        have hown := OwnRs.app (s := ⟨some ⟨b1, 0, none⟩, 1, 1⟩) (row := [(⟨f + bn - yf, f + bn + yf⟩ : Sp)]) hsx1 hs2.out (fun i hi => ⟨(hs3 i hi).1.mono hb, (hs3 i hi).2⟩) hfar (own_oneS (enc := spEnc) (m := 2) ⟨f + bn - yf, f + bn + yf⟩ rfl (Nat.le_trans hGYh.out.size hq1) hk1)
          (fun q e => by
            obtain rfl : b1 = q := by simpa [Value.ownBlock] using e
            exact ⟨fun e' => by have := hsw _ e'; omega, fun e' => by have := hsr _ e'; omega⟩) ho3 hg3 (by rcases hat3 with e | e; exact .inl e; exact .inr ⟨_, e, Nat.le_refl _⟩) (fun k hk e => by have := hsr _ e; omega)
        have hGZ := hGx.flow hg3 hown (fun k e => (hsx1.lt k e).1) (fun k e => hfar k e)
        rw [← hF2.out] at hGZ
        have hGZh := Lib.hid hGZ
        generalize w3.setCell ⟨W2.heap.size, 1, none⟩ (.slice a3 (ss.length + 1) c3) = Z at *
        clear hown hGZ ho3 hg3 hat3 hbx3 p0 p1 p2 k0 k1 k2 zx hGx hcell hBx hsx1 hsr hsw hxs hbxx hk1 hk2 hGYh hs1 hs2 hs3 hfar o0 o1 o2 zo t0 z0 hb
        generalize ss.length + 1 = sn at *
        have t1 := kept_cell hGZh.out.bel s1
        have t2 := kept_cell hGZh.out.bel s2
        have t4 := kept_cell hGZh.out.bel x2
        have z0 := Nat.lt_of_lt_of_le hbb hGZh.out.bel.size
        have z4 := Nat.lt_of_lt_of_le hc2 hGZh.out.bel.size
        cases yr
        · have hR := hRn2.out rfl
          have hfin : Hid (SdSt W2 (.slice (some ⟨W1.heap.size, 0, none⟩) 1 1) (sdF l fl wrg (d + 1)) (sdR l first fl size since wrg (d + 1)) (.slice a3 sn c3) (.slice ra RR.length rc) Z) := Lib.hid (by rw [hFe.out, hRe.out, hR]; exact hGZh.out)
          have hNN : Hid ((Value.int .i64 N : Value) = .int .i64 (nowT first fl size since (d + 1))) := Lib.hid (by rw [hNe.out])
          clear hR hGZh
          go_wp2_with fail
          exact ⟨⟨d + 1, _, _, by omega, by go_num, hNN.out, hfin⟩, by simp [intOf]; omega⟩
        · have kT3 := Lib.hid (fun gg : Grow Z => (kT2.out gg.x).mono (fun e w' (h : e = .returned (.int .i64 (bentI (gq.tdiv 7) yc)) ∧ gg.x = w') => (⟨h.1, by rw [← h.2]; exact Below.refl _ _⟩ : e = .returned (.int .i64 (bentI (gq.tdiv 7) yc)) ∧ Below gg.x.heap.size gg.x w')))
          have hRq := Lib.hid (hRy2.out rfl)
          clear hRy2 hRn2 kT2
          go_upto_region 12 with fail
          have hgZ := grow_cell Z
          refine wp_region_grow (by kernel_rfl) (by kernel_rfl) ?_
          repeat (go_big_quiet_step ((first | (with_reducible exact Calls.grow (kT3.out _)))))
          refine wpQuiet_nil ?_
          rintro _ ⟨g, rfl⟩
          clear hgZ t1 t2 t4 z0 z4
          have hYb := g.h
          generalize g.x = Y2 at *
          have hGY := hGZh.out.mono hYb
          clear hGZh hYb kT3
          generalize bentI (gq.tdiv 7) yc = bn2 at *
          obtain ⟨o0, o1, o2⟩ := rc3 hGY.box
          have zo := (Array.getElem?_eq_some_iff.1 hGY.box).1
          have t2 := kept_cell hGY.bel s2
          have z0 := Nat.lt_of_lt_of_le hbb hGY.bel.size
          have hGYh := Lib.hid hGY
          clear hGY
          go_upto_region 13 with fail
          refine plain_region (by kernel_rfl) (any_region_locN 20 118 [] [95, 96, 97, 98, 99, 100, 101, 102, 103, 104, 105, 106, 107, 108, 109, 110, 111, 112, 113, 114] [[], [0], [], [], [], [], [4, 5], [6], [7], [3, 8], [], [], [], [11, 12], [13], [14], [10, 15], [9, 16], [2, 17], [18]] [IsV (.pointer (some ⟨W2.heap.size, 2, none⟩)), IsV (.slice ra RR.length rc), IsV (.int .i64 d), IsV (.int .i64 (N + bn2)), IsV (.slice (some ⟨bb, off, none⟩) l.length lc), IsV (.int .i64 d), IsV (.pointer (some ⟨bb, off + d * 3, none⟩)), IsV (.pointer (some ⟨bb, off + d * 3 + 2, none⟩)), IsV (.int .i64 yc), IsV (.int .i64 (N + bn2 - yc)), IsV (.int .i64 (N + bn2)), IsV (.slice (some ⟨bb, off, none⟩) l.length lc), IsV (.int .i64 d), IsV (.pointer (some ⟨bb, off + d * 3, none⟩)), IsV (.pointer (some ⟨bb, off + d * 3 + 2, none⟩)), IsV (.int .i64 yc), IsV (.int .i64 (N + bn2 + yc)), IsV (.agg #[.int .i64 (N + bn2 - yc), .int .i64 (N + bn2 + yc)]), IsV (.agg #[.int .i64 d, .int .i64 0, .int .i64 (N + bn2 - yc), .int .i64 (N + bn2 + yc)]), SlIs Y2.heap.size [.int .i64 d, .int .i64 0, .int .i64 (N + bn2 - yc), .int .i64 (N + bn2 + yc)] 57] [] (by kernel_rfl) (by kernel_rfl) (by kernel_rfl) (by kernel_rfl) (by kernel_rfl) rfl OnlyN.panic ?_ ?_ ?_ (fun j hj => nomatch hj) ?_)
          · exact List.forall_mem_cons.2 ⟨pers_v _, List.forall_mem_cons.2 ⟨pers_v _, List.forall_mem_cons.2 ⟨pers_v _, List.forall_mem_cons.2 ⟨pers_v _, List.forall_mem_cons.2 ⟨pers_v _, List.forall_mem_cons.2 ⟨pers_v _, List.forall_mem_cons.2 ⟨pers_v _, List.forall_mem_cons.2 ⟨pers_v _, List.forall_mem_cons.2 ⟨pers_v _, List.forall_mem_cons.2 ⟨pers_v _, List.forall_mem_cons.2 ⟨pers_v _, List.forall_mem_cons.2 ⟨pers_v _, List.forall_mem_cons.2 ⟨pers_v _, List.forall_mem_cons.2 ⟨pers_v _, List.forall_mem_cons.2 ⟨pers_v _, List.forall_mem_cons.2 ⟨pers_v _, List.forall_mem_cons.2 ⟨pers_v _, List.forall_mem_cons.2 ⟨pers_v _, List.forall_mem_cons.2 ⟨pers_v _, List.forall_mem_cons.2 ⟨pers_sl _ _ _, fun f h => nomatch h⟩⟩⟩⟩⟩⟩⟩⟩⟩⟩⟩⟩⟩⟩⟩⟩⟩⟩⟩⟩
          · intro k hk; cases hk
          · refine ⟨?_, ?_, ?_, ?_, ?_, ?_, ?_, ?_, ?_, ?_, ?_, ?_, ?_, ?_, ?_, ?_, ?_, ?_, ?_, ?_, trivial⟩
            · intro vals x hb hf
              simp only [fillS, List.getD_cons_succ, List.getD_cons_zero, Act.put, List.setIfInBounds_toArray, List.set_cons_zero, List.set_cons_succ]
              clear hf
              have w0 := kept_cell hb t2
              have w1 := kept_cell hb o2
              have wz := Nat.lt_of_lt_of_le z0 hb.size
              have wo := Nat.lt_of_lt_of_le zo hb.size
              go_wp2
              exact ⟨rfl, rfl, Below.refl _ _, _, rfl, rfl, (fun h => absurd h (by decide))⟩
            · intro vals x hb hf
              simp only [fillS, List.getD_cons_succ, List.getD_cons_zero, Act.put, List.setIfInBounds_toArray, List.set_cons_zero, List.set_cons_succ]
              have h0 : vals 0 = .pointer (some ⟨W2.heap.size, 2, none⟩) := hf.1
              rw [h0]
              clear h0
              clear hf
              have w0 := kept_cell hb t2
              have w1 := kept_cell hb o2
              have wz := Nat.lt_of_lt_of_le z0 hb.size
              have wo := Nat.lt_of_lt_of_le zo hb.size
              go_wp2
              exact ⟨rfl, rfl, Below.refl _ _, _, rfl, rfl, (fun h => absurd h (by decide))⟩
            · intro vals x hb hf
              simp only [fillS, List.getD_cons_succ, List.getD_cons_zero, Act.put, List.setIfInBounds_toArray, List.set_cons_zero, List.set_cons_succ]
              clear hf
              have w0 := kept_cell hb t2
              have w1 := kept_cell hb o2
              have wz := Nat.lt_of_lt_of_le z0 hb.size
              have wo := Nat.lt_of_lt_of_le zo hb.size
              go_wp2
              exact ⟨rfl, rfl, Below.refl _ _, _, rfl, rfl, (fun h => absurd h (by decide))⟩
            · intro vals x hb hf
              simp only [fillS, List.getD_cons_succ, List.getD_cons_zero, Act.put, List.setIfInBounds_toArray, List.set_cons_zero, List.set_cons_succ]
              clear hf
              have w0 := kept_cell hb t2
              have w1 := kept_cell hb o2
              have wz := Nat.lt_of_lt_of_le z0 hb.size
              have wo := Nat.lt_of_lt_of_le zo hb.size
              go_wp2
              exact ⟨rfl, rfl, Below.refl _ _, _, rfl, rfl, (fun h => absurd h (by decide))⟩
            · intro vals x hb hf
              simp only [fillS, List.getD_cons_succ, List.getD_cons_zero, Act.put, List.setIfInBounds_toArray, List.set_cons_zero, List.set_cons_succ]
              clear hf
              have w0 := kept_cell hb t2
              have w1 := kept_cell hb o2
              have wz := Nat.lt_of_lt_of_le z0 hb.size
              have wo := Nat.lt_of_lt_of_le zo hb.size
              go_wp2
              exact ⟨rfl, rfl, Below.refl _ _, _, rfl, rfl, (fun h => absurd h (by decide))⟩
            · intro vals x hb hf
              simp only [fillS, List.getD_cons_succ, List.getD_cons_zero, Act.put, List.setIfInBounds_toArray, List.set_cons_zero, List.set_cons_succ]
              clear hf
              have w0 := kept_cell hb t2
              have w1 := kept_cell hb o2
              have wz := Nat.lt_of_lt_of_le z0 hb.size
              have wo := Nat.lt_of_lt_of_le zo hb.size
              go_wp2
              exact ⟨rfl, rfl, Below.refl _ _, _, rfl, rfl, (fun h => absurd h (by decide))⟩
            · intro vals x hb hf
              simp only [fillS, List.getD_cons_succ, List.getD_cons_zero, Act.put, List.setIfInBounds_toArray, List.set_cons_zero, List.set_cons_succ]
              have h4 : vals 4 = .slice (some ⟨bb, off, none⟩) l.length lc := hf.1
              rw [h4]
              clear h4
              have h5 : vals 5 = .int .i64 d := hf.2.1
              rw [h5]
              clear h5
              clear hf
              have w0 := kept_cell hb t2
              have w1 := kept_cell hb o2
              have wz := Nat.lt_of_lt_of_le z0 hb.size
              have wo := Nat.lt_of_lt_of_le zo hb.size
              go_wp2
              exact ⟨rfl, rfl, Below.refl _ _, _, rfl, rfl, (fun h => absurd h (by decide))⟩
            · intro vals x hb hf
              simp only [fillS, List.getD_cons_succ, List.getD_cons_zero, Act.put, List.setIfInBounds_toArray, List.set_cons_zero, List.set_cons_succ]
              have h6 : vals 6 = .pointer (some ⟨bb, off + d * 3, none⟩) := hf.1
              rw [h6]
              clear h6
              clear hf
              have w0 := kept_cell hb t2
              have w1 := kept_cell hb o2
              have wz := Nat.lt_of_lt_of_le z0 hb.size
              have wo := Nat.lt_of_lt_of_le zo hb.size
              go_wp2
              exact ⟨rfl, rfl, Below.refl _ _, _, rfl, rfl, (fun h => absurd h (by decide))⟩
            · intro vals x hb hf
              simp only [fillS, List.getD_cons_succ, List.getD_cons_zero, Act.put, List.setIfInBounds_toArray, List.set_cons_zero, List.set_cons_succ]
              have h7 : vals 7 = .pointer (some ⟨bb, off + d * 3 + 2, none⟩) := hf.1
              rw [h7]
              clear h7
              clear hf
              have w0 := kept_cell hb t2
              have w1 := kept_cell hb o2
              have wz := Nat.lt_of_lt_of_le z0 hb.size
              have wo := Nat.lt_of_lt_of_le zo hb.size
              go_wp2
              exact ⟨rfl, rfl, Below.refl _ _, _, rfl, rfl, (fun h => absurd h (by decide))⟩
            · intro vals x hb hf
              simp only [fillS, List.getD_cons_succ, List.getD_cons_zero, Act.put, List.setIfInBounds_toArray, List.set_cons_zero, List.set_cons_succ]
              have h3 : vals 3 = .int .i64 (N + bn2) := hf.1
              rw [h3]
              clear h3
              have h8 : vals 8 = .int .i64 yc := hf.2.1
              rw [h8]
              clear h8
              clear hf
              have w0 := kept_cell hb t2
              have w1 := kept_cell hb o2
              have wz := Nat.lt_of_lt_of_le z0 hb.size
              have wo := Nat.lt_of_lt_of_le zo hb.size
              go_wp2
              exact ⟨rfl, rfl, Below.refl _ _, _, rfl, rfl, (fun h => absurd h (by decide))⟩
            · intro vals x hb hf
              simp only [fillS, List.getD_cons_succ, List.getD_cons_zero, Act.put, List.setIfInBounds_toArray, List.set_cons_zero, List.set_cons_succ]
              clear hf
              have w0 := kept_cell hb t2
              have w1 := kept_cell hb o2
              have wz := Nat.lt_of_lt_of_le z0 hb.size
              have wo := Nat.lt_of_lt_of_le zo hb.size
              go_wp2
              exact ⟨rfl, rfl, Below.refl _ _, _, rfl, rfl, (fun h => absurd h (by decide))⟩
            · intro vals x hb hf
              simp only [fillS, List.getD_cons_succ, List.getD_cons_zero, Act.put, List.setIfInBounds_toArray, List.set_cons_zero, List.set_cons_succ]
              clear hf
              have w0 := kept_cell hb t2
              have w1 := kept_cell hb o2
              have wz := Nat.lt_of_lt_of_le z0 hb.size
              have wo := Nat.lt_of_lt_of_le zo hb.size
              go_wp2
              exact ⟨rfl, rfl, Below.refl _ _, _, rfl, rfl, (fun h => absurd h (by decide))⟩
            · intro vals x hb hf
              simp only [fillS, List.getD_cons_succ, List.getD_cons_zero, Act.put, List.setIfInBounds_toArray, List.set_cons_zero, List.set_cons_succ]
              clear hf
              have w0 := kept_cell hb t2
              have w1 := kept_cell hb o2
              have wz := Nat.lt_of_lt_of_le z0 hb.size
              have wo := Nat.lt_of_lt_of_le zo hb.size
              go_wp2
              exact ⟨rfl, rfl, Below.refl _ _, _, rfl, rfl, (fun h => absurd h (by decide))⟩
            · intro vals x hb hf
              simp only [fillS, List.getD_cons_succ, List.getD_cons_zero, Act.put, List.setIfInBounds_toArray, List.set_cons_zero, List.set_cons_succ]
              have h11 : vals 11 = .slice (some ⟨bb, off, none⟩) l.length lc := hf.1
              rw [h11]
              clear h11
              have h12 : vals 12 = .int .i64 d := hf.2.1
              rw [h12]
              clear h12
              clear hf
              have w0 := kept_cell hb t2
              have w1 := kept_cell hb o2
              have wz := Nat.lt_of_lt_of_le z0 hb.size
              have wo := Nat.lt_of_lt_of_le zo hb.size
              go_wp2
              exact ⟨rfl, rfl, Below.refl _ _, _, rfl, rfl, (fun h => absurd h (by decide))⟩
            · intro vals x hb hf
              simp only [fillS, List.getD_cons_succ, List.getD_cons_zero, Act.put, List.setIfInBounds_toArray, List.set_cons_zero, List.set_cons_succ]
              have h13 : vals 13 = .pointer (some ⟨bb, off + d * 3, none⟩) := hf.1
              rw [h13]
              clear h13
              clear hf
              have w0 := kept_cell hb t2
              have w1 := kept_cell hb o2
              have wz := Nat.lt_of_lt_of_le z0 hb.size
              have wo := Nat.lt_of_lt_of_le zo hb.size
              go_wp2
              exact ⟨rfl, rfl, Below.refl _ _, _, rfl, rfl, (fun h => absurd h (by decide))⟩
            · intro vals x hb hf
              simp only [fillS, List.getD_cons_succ, List.getD_cons_zero, Act.put, List.setIfInBounds_toArray, List.set_cons_zero, List.set_cons_succ]
              have h14 : vals 14 = .pointer (some ⟨bb, off + d * 3 + 2, none⟩) := hf.1
              rw [h14]
              clear h14
              clear hf
              have w0 := kept_cell hb t2
              have w1 := kept_cell hb o2
              have wz := Nat.lt_of_lt_of_le z0 hb.size
              have wo := Nat.lt_of_lt_of_le zo hb.size
              go_wp2
              exact ⟨rfl, rfl, Below.refl _ _, _, rfl, rfl, (fun h => absurd h (by decide))⟩
            · intro vals x hb hf
              simp only [fillS, List.getD_cons_succ, List.getD_cons_zero, Act.put, List.setIfInBounds_toArray, List.set_cons_zero, List.set_cons_succ]
              have h10 : vals 10 = .int .i64 (N + bn2) := hf.1
              rw [h10]
              clear h10
              have h15 : vals 15 = .int .i64 yc := hf.2.1
              rw [h15]
              clear h15
              clear hf
              have w0 := kept_cell hb t2
              have w1 := kept_cell hb o2
              have wz := Nat.lt_of_lt_of_le z0 hb.size
              have wo := Nat.lt_of_lt_of_le zo hb.size
              go_wp2
              exact ⟨rfl, rfl, Below.refl _ _, _, rfl, rfl, (fun h => absurd h (by decide))⟩
            · intro vals x hb hf
              simp only [fillS, List.getD_cons_succ, List.getD_cons_zero, Act.put, List.setIfInBounds_toArray, List.set_cons_zero, List.set_cons_succ]
              have h9 : vals 9 = .int .i64 (N + bn2 - yc) := hf.1
              rw [h9]
              clear h9
              have h16 : vals 16 = .int .i64 (N + bn2 + yc) := hf.2.1
              rw [h16]
              clear h16
              clear hf
              have w0 := kept_cell hb t2
              have w1 := kept_cell hb o2
              have wz := Nat.lt_of_lt_of_le z0 hb.size
              have wo := Nat.lt_of_lt_of_le zo hb.size
              go_wp2
              exact ⟨rfl, rfl, Below.refl _ _, _, rfl, rfl, (fun h => absurd h (by decide))⟩
            · intro vals x hb hf
              simp only [fillS, List.getD_cons_succ, List.getD_cons_zero, Act.put, List.setIfInBounds_toArray, List.set_cons_zero, List.set_cons_succ]
              have h2 : vals 2 = .int .i64 d := hf.1
              rw [h2]
              clear h2
              have h17 : vals 17 = .agg #[.int .i64 (N + bn2 - yc), .int .i64 (N + bn2 + yc)] := hf.2.1
              rw [h17]
              clear h17
              clear hf
              have w0 := kept_cell hb t2
              have w1 := kept_cell hb o2
              have wz := Nat.lt_of_lt_of_le z0 hb.size
              have wo := Nat.lt_of_lt_of_le zo hb.size
              go_wp2
              exact ⟨rfl, rfl, Below.refl _ _, _, rfl, rfl, (fun h => absurd h (by decide))⟩
            · intro vals x hb hf
              simp only [fillS, List.getD_cons_succ, List.getD_cons_zero, Act.put, List.setIfInBounds_toArray, List.set_cons_zero, List.set_cons_succ]
              have h18 : vals 18 = .agg #[.int .i64 d, .int .i64 0, .int .i64 (N + bn2 - yc), .int .i64 (N + bn2 + yc)] := hf.1
              rw [h18]
              clear h18
              clear hf
              have w0 := kept_cell hb t2
              have w1 := kept_cell hb o2
              have wz := Nat.lt_of_lt_of_le z0 hb.size
              have wo := Nat.lt_of_lt_of_le zo hb.size
              go_wp2
              exact ⟨rfl, rfl, (Below.refl _ _).alloc (Nat.le_refl _) _, _, rfl, ⟨_, rfl, hb.size, World.alloc_heap_new _ _⟩, (fun h => absurd h (by decide))⟩
          intro vals x hb hf hp
          have hrange : List.range 20 = [0, 1, 2, 3, 4, 5, 6, 7, 8, 9, 10, 11, 12, 13, 14, 15, 16, 17, 18, 19] := by rfl
          rw [hrange]
          simp only [fillS, List.getD_cons_succ, List.getD_cons_zero, Act.put, List.setIfInBounds_toArray, List.set_cons_zero, List.set_cons_succ]
          have h0 : vals 0 = .pointer (some ⟨W2.heap.size, 2, none⟩) := hf 0 (by omega)
          have h1 : vals 1 = .slice ra RR.length rc := hf 1 (by omega)
          have h2 : vals 2 = .int .i64 d := hf 2 (by omega)
          have h3 : vals 3 = .int .i64 (N + bn2) := hf 3 (by omega)
          have h4 : vals 4 = .slice (some ⟨bb, off, none⟩) l.length lc := hf 4 (by omega)
          have h5 : vals 5 = .int .i64 d := hf 5 (by omega)
          have h6 : vals 6 = .pointer (some ⟨bb, off + d * 3, none⟩) := hf 6 (by omega)
          have h7 : vals 7 = .pointer (some ⟨bb, off + d * 3 + 2, none⟩) := hf 7 (by omega)
          have h8 : vals 8 = .int .i64 yc := hf 8 (by omega)
          have h9 : vals 9 = .int .i64 (N + bn2 - yc) := hf 9 (by omega)
          have h10 : vals 10 = .int .i64 (N + bn2) := hf 10 (by omega)
          have h11 : vals 11 = .slice (some ⟨bb, off, none⟩) l.length lc := hf 11 (by omega)
          have h12 : vals 12 = .int .i64 d := hf 12 (by omega)
          have h13 : vals 13 = .pointer (some ⟨bb, off + d * 3, none⟩) := hf 13 (by omega)
          have h14 : vals 14 = .pointer (some ⟨bb, off + d * 3 + 2, none⟩) := hf 14 (by omega)
          have h15 : vals 15 = .int .i64 yc := hf 15 (by omega)
          have h16 : vals 16 = .int .i64 (N + bn2 + yc) := hf 16 (by omega)
          have h17 : vals 17 = .agg #[.int .i64 (N + bn2 - yc), .int .i64 (N + bn2 + yc)] := hf 17 (by omega)
          have h18 : vals 18 = .agg #[.int .i64 d, .int .i64 0, .int .i64 (N + bn2 - yc), .int .i64 (N + bn2 + yc)] := hf 18 (by omega)
          have f19 : (SlIs Y2.heap.size [.int .i64 d, .int .i64 0, .int .i64 (N + bn2 - yc), .int .i64 (N + bn2 + yc)] 57) (vals 19) x := hf 19 (by omega)
          rw [h0, h1, h2, h3, h4, h5, h6, h7, h8, h9, h10, h11, h12, h13, h14, h15, h16, h17, h18]
          clear h0 h1 h2 h3 h4 h5 h6 h7 h8 h9 h10 h11 h12 h13 h14 h15 h16 h17 h18 hf hp hrange
          simp only [List.drop_succ_cons, List.drop_zero]
          obtain ⟨b1, hv19, hq1, hk1⟩ := f19
          rw [show vals 19 = _ from hv19]
          have hGx := hGYh.out.mono hb
          have hBx := hGx.size
          have hbxx := hGx.box
          have hrx := hGx.reads
          have hr32 : RR.length * 32 ≤ 140737488351232 := by omega
          clear hv19 hGYh o0 o1 o2 zo t2 z0
          go_wp2_with (at_builtin; refine wpList_app_rd (by rfl) _ _ (by rfl) (W2.heap.size + 1) x (.slice ra RR.length rc) RR ⟨d, 0, ⟨N + bn2 - yc, N + bn2 + yc⟩⟩ b1 (by rfl) (by rfl) hrx hr32 hBx hk1 ?_; intro v3 w3 ho3 hg3 hat3; obtain ⟨a4, c4, he3⟩ := ho3.slice; rw [show (RR ++ [(⟨d, 0, ⟨N + bn2 - yc, N + bn2 + yc⟩⟩ : Rd)]).length = RR.length + 1 by simp] at he3; subst he3; have hbx3 : w3.heap[W2.heap.size]? = some (bkA (.slice (some ⟨W1.heap.size, 0, none⟩) 1 1) (.slice a3 sn c3) (.slice ra RR.length rc)) := (hg3.block _ (Array.getElem?_eq_some_iff.1 hbxx).1 (fun e => by have := (hrx.lt _ e.symm).1; omega)).trans hbxx; obtain ⟨p0, p1, p2⟩ := rc3 hbx3; obtain ⟨k0, k1, k2⟩ := rf3 hbx3; have zx := (Array.getElem?_eq_some_iff.1 hbx3).1)
          refine OnlyN.mk ?_
          have hGU := hGx.read hg3 ho3 hat3
          rw [← hRq.out] at hGU
          have hfin : Hid (SdSt W2 (.slice (some ⟨W1.heap.size, 0, none⟩) 1 1) (sdF l fl wrg (d + 1)) (sdR l first fl size since wrg (d + 1)) (.slice a3 sn c3) (.slice a4 (RR.length + 1) c4) (w3.setCell ⟨W2.heap.size, 2, none⟩ (.slice a4 (RR.length + 1) c4))) := Lib.hid (by rw [hFe.out, hRe.out]; exact hGU)
          have hNN : Hid ((Value.int .i64 N : Value) = .int .i64 (nowT first fl size since (d + 1))) := Lib.hid (by rw [hNe.out])
          generalize w3.setCell ⟨W2.heap.size, 2, none⟩ (.slice a4 (RR.length + 1) c4) = U at *
          clear hGU ho3 hg3 hat3 hbx3 p0 p1 p2 k0 k1 k2 zx hGx hBx hbxx hrx hk1 hb
          go_wp2_with fail
          exact ⟨⟨d + 1, _, _, by omega, by go_num, hNN.out, hfin⟩, by simp [intOf]; omega⟩
      · have d1 : decide (since ≤ (d : Int)) = false := decide_eq_false hsd
        rw [if_neg hsd] at hlk
        have hN2 : a + at0 fl d = N := by rw [hnx.out, hlk]; omega
        have hN3 := Lib.hid hN2
        clear hN2 hlk hsd
        go_upto_region 9 with fail
        rw [hN3.out]
        obtain ⟨c2, p2, m2, hv2, hc2, -, x2⟩ := int_cells hg2.out (k := d) (by rw [hglh.out]; exact hdl2)
        obtain ⟨rfl, rfl⟩ : ga = some ⟨c2, p2, none⟩ ∧ gc = m2 := by simpa using hv2
        obtain ⟨da, dc, hv3, hm3, hc3⟩ := hl2.out
        obtain ⟨bb, off, rfl, hbb, hcells⟩ := hc3 (by omega)
        obtain ⟨rfl, rfl⟩ : la = some ⟨bb, off, none⟩ ∧ lc = dc := by simpa using hv3
        have s0 : W2.cell? ⟨bb, off + d * 3, none⟩ = some (.int .i64 (dyAt l d).flow) := hcells d 0 _ hdl2 rfl
        have s1 : W2.cell? ⟨bb, off + d * 3 + 1, none⟩ = some (.bool (dyAt l d).reads) := hcells d 1 _ hdl2 rfl
        have s2 : W2.cell? ⟨bb, off + d * 3 + 2, none⟩ = some (.int .i64 (dyAt l d).content) := hcells d 2 _ hdl2 rfl
        have hdg : (d : Int) < (wrg.length : Int) := by rw [hglh.out]; omega
        have hdl3 : (d : Int) < (l.length : Int) := by omega
        have hF := Lib.hid (sdF_succ (w := l) (fl := fl) (wrg := wrg) (n := d))
        have hRy := Lib.hid (fun h => sdR_yes (w := l) (first := first) (fl := fl) (size := size) (since := since) (wrg := wrg) (n := d) h)
        have hRn := Lib.hid (fun h => sdR_no (w := l) (first := first) (fl := fl) (size := size) (since := since) (wrg := wrg) (n := d) h)
        have hFl : Hid ((sdF l fl wrg d).length = d) := Lib.hid (by simp [sdF])
        have hRl := sdR_len (w := l) (first := first) (fl := fl) (size := size) (since := since) (wrg := wrg) d
        unfold sdFlow at hF
        unfold sdRead at hRy
        rw [hNe] at hRy
        clear hv2 hv3 hm3 hc3 hcells
        generalize sdF l fl wrg d = FF at *
        generalize sdR l first fl size since wrg d = RR at *
        generalize hFe : sdF l fl wrg (d + 1) = FF' at *
        generalize hRe : sdR l first fl size since wrg (d + 1) = RR' at *
        replace hFe := Lib.hid hFe
        replace hRe := Lib.hid hRe
        replace hNe := Lib.hid hNe
        generalize dyAt l d = y at *
        generalize at0 fl d = f at *
        generalize at0 wrg d = gq at *
        obtain ⟨yf, yr, yc⟩ := y
        simp only at s0 s1 s2 hday
        have kT := Lib.hid (fun gg : Grow wr => (lawBent gq yf gg.x (by omega)).mono (fun e w' (h : e = .returned (.int .i64 (bentI gq yf)) ∧ gg.x = w') => (⟨h.1, by rw [← h.2]; exact Below.refl _ _⟩ : e = .returned (.int .i64 (bentI gq yf)) ∧ Below gg.x.heap.size gg.x w')))
        have kT2 := Lib.hid (fun (X : World) => lawBent (gq.tdiv 7) yc X (by omega))
        have hbn : -10000000 ≤ bentI gq yf ∧ bentI gq yf ≤ 10000000 := by unfold bentI; omega
        have hbn2 : -10000000 ≤ bentI (gq.tdiv 7) yc ∧ bentI (gq.tdiv 7) yc ≤ 10000000 := by unfold bentI; omega
        have hG0 := hG.out
        have t0 := kept_cell hG0.bel s0
        have t1 := kept_cell hG0.bel s1
        have t2 := kept_cell hG0.bel s2
        have t3 := kept_cell hG0.bel x0
        have t4 := kept_cell hG0.bel x2
        have z0 := Nat.lt_of_lt_of_le hbb hG0.bel.size
        have z3 := Nat.lt_of_lt_of_le hc1 hG0.bel.size
        have z4 := Nat.lt_of_lt_of_le hc2 hG0.bel.size
        clear x0' hc1'
        have hgW := grow_cell wr
        refine wp_region_grow (by kernel_rfl) (by kernel_rfl) ?_
        repeat (go_big_quiet_step ((first | (with_reducible exact Calls.grow (kT.out _)))))
        refine wpQuiet_nil ?_
        rintro _ ⟨g, rfl⟩
        clear hgW t0 t1 t2 t3 t4 z0 z3 z4
        have hYb := g.h
        generalize g.x = Y at *
        have hGY := hG0.mono hYb
        clear hG hG0 hYb kT
        have hF2 : Hid (FF' = FF ++ [[⟨f + bentI gq yf - yf, f + bentI gq yf + yf⟩]]) := Lib.hid hF.out
        have hRy2 : Hid (yr = true → RR' = RR ++ [⟨d, 0, ⟨N + bentI (gq.tdiv 7) yc - yc, N + bentI (gq.tdiv 7) yc + yc⟩⟩]) := Lib.hid fun h => hRy.out h
        have hRn2 : Hid (yr = false → RR' = RR) := Lib.hid fun h => hRn.out h
        clear hF hRy hRn
        generalize bentI gq yf = bn at *
        obtain ⟨⟨ss, hs1, hs2, hs3⟩, hfar⟩ := hGY.flows
        obtain ⟨va, vc, rfl⟩ := hs1.slice
        obtain ⟨ra, rc, rfl⟩ := hGY.reads.slice
        obtain ⟨o0, o1, o2⟩ := rc3 hGY.box
        have zo := (Array.getElem?_eq_some_iff.1 hGY.box).1
        have t0 := kept_cell hGY.bel s0
        have z0 := Nat.lt_of_lt_of_le hbb hGY.bel.size
        have hssl : ss.length ≤ 30 := by
          rw [hs2]; have := hFl.out; omega
        have hGYh := Lib.hid hGY
        replace hs2 := Lib.hid hs2
        clear hGY
        go_upto_region 10 with fail
        refine plain_region (by kernel_rfl) (any_region_locN 19 118 [] [56, 57, 58, 59, 60, 61, 62, 63, 64, 65, 66, 67, 68, 69, 70, 71, 72, 73, 74] [[], [0], [], [], [], [3, 4], [5], [6], [2, 7], [], [], [], [10, 11], [12], [13], [9, 14], [8, 15], [16], [17]] [IsV (.pointer (some ⟨W2.heap.size, 1, none⟩)), IsV (.slice va ss.length vc), IsV (.int .i64 (f + bn)), IsV (.slice (some ⟨bb, off, none⟩) l.length lc), IsV (.int .i64 d), IsV (.pointer (some ⟨bb, off + d * 3, none⟩)), IsV (.pointer (some ⟨bb, off + d * 3, none⟩)), IsV (.int .i64 yf), IsV (.int .i64 (f + bn - yf)), IsV (.int .i64 (f + bn)), IsV (.slice (some ⟨bb, off, none⟩) l.length lc), IsV (.int .i64 d), IsV (.pointer (some ⟨bb, off + d * 3, none⟩)), IsV (.pointer (some ⟨bb, off + d * 3, none⟩)), IsV (.int .i64 yf), IsV (.int .i64 (f + bn + yf)), IsV (.agg #[.int .i64 (f + bn - yf), .int .i64 (f + bn + yf)]), SlIs Y.heap.size [.int .i64 (f + bn - yf), .int .i64 (f + bn + yf)] 55, SlIs2 Y.heap.size [.int .i64 (f + bn - yf), .int .i64 (f + bn + yf)] 55 22] [] (by kernel_rfl) (by kernel_rfl) (by kernel_rfl) (by kernel_rfl) (by kernel_rfl) rfl OnlyN.panic ?_ ?_ ?_ (fun j hj => nomatch hj) ?_)
        · exact List.forall_mem_cons.2 ⟨pers_v _, List.forall_mem_cons.2 ⟨pers_v _, List.forall_mem_cons.2 ⟨pers_v _, List.forall_mem_cons.2 ⟨pers_v _, List.forall_mem_cons.2 ⟨pers_v _, List.forall_mem_cons.2 ⟨pers_v _, List.forall_mem_cons.2 ⟨pers_v _, List.forall_mem_cons.2 ⟨pers_v _, List.forall_mem_cons.2 ⟨pers_v _, List.forall_mem_cons.2 ⟨pers_v _, List.forall_mem_cons.2 ⟨pers_v _, List.forall_mem_cons.2 ⟨pers_v _, List.forall_mem_cons.2 ⟨pers_v _, List.forall_mem_cons.2 ⟨pers_v _, List.forall_mem_cons.2 ⟨pers_v _, List.forall_mem_cons.2 ⟨pers_v _, List.forall_mem_cons.2 ⟨pers_v _, List.forall_mem_cons.2 ⟨pers_sl _ _ _, List.forall_mem_cons.2 ⟨pers_sl2 _ _ _ _, fun f h => nomatch h⟩⟩⟩⟩⟩⟩⟩⟩⟩⟩⟩⟩⟩⟩⟩⟩⟩⟩⟩
        · intro k hk; cases hk
        · refine ⟨?_, ?_, ?_, ?_, ?_, ?_, ?_, ?_, ?_, ?_, ?_, ?_, ?_, ?_, ?_, ?_, ?_, ?_, ?_, trivial⟩
          · intro vals x hb hf
            simp only [fillS, List.getD_cons_succ, List.getD_cons_zero, Act.put, List.setIfInBounds_toArray, List.set_cons_zero, List.set_cons_succ]
            clear hf
            have w0 := kept_cell hb t0
            have w1 := kept_cell hb o1
            have wz := Nat.lt_of_lt_of_le z0 hb.size
            have wo := Nat.lt_of_lt_of_le zo hb.size
            go_wp2
            exact ⟨rfl, rfl, Below.refl _ _, _, rfl, rfl, (fun h => absurd h (by decide))⟩
          · intro vals x hb hf
            simp only [fillS, List.getD_cons_succ, List.getD_cons_zero, Act.put, List.setIfInBounds_toArray, List.set_cons_zero, List.set_cons_succ]
            have h0 : vals 0 = .pointer (some ⟨W2.heap.size, 1, none⟩) := hf.1
            rw [h0]
            clear h0
            clear hf
            have w0 := kept_cell hb t0
            have w1 := kept_cell hb o1
            have wz := Nat.lt_of_lt_of_le z0 hb.size
            have wo := Nat.lt_of_lt_of_le zo hb.size
            go_wp2
            exact ⟨rfl, rfl, Below.refl _ _, _, rfl, rfl, (fun h => absurd h (by decide))⟩
          · intro vals x hb hf
            simp only [fillS, List.getD_cons_succ, List.getD_cons_zero, Act.put, List.setIfInBounds_toArray, List.set_cons_zero, List.set_cons_succ]
            clear hf
            have w0 := kept_cell hb t0
            have w1 := kept_cell hb o1
            have wz := Nat.lt_of_lt_of_le z0 hb.size
            have wo := Nat.lt_of_lt_of_le zo hb.size
            go_wp2
            exact ⟨rfl, rfl, Below.refl _ _, _, rfl, rfl, (fun h => absurd h (by decide))⟩
          · intro vals x hb hf
            simp only [fillS, List.getD_cons_succ, List.getD_cons_zero, Act.put, List.setIfInBounds_toArray, List.set_cons_zero, List.set_cons_succ]
            clear hf
            have w0 := kept_cell hb t0
            have w1 := kept_cell hb o1
            have wz := Nat.lt_of_lt_of_le z0 hb.size
            have wo := Nat.lt_of_lt_of_le zo hb.size
            go_wp2
            exact ⟨rfl, rfl, Below.refl _ _, _, rfl, rfl, (fun h => absurd h (by decide))⟩
          · intro vals x hb hf
            simp only [fillS, List.getD_cons_succ, List.getD_cons_zero, Act.put, List.setIfInBounds_toArray, List.set_cons_zero, List.set_cons_succ]
            clear hf
            have w0 := kept_cell hb t0
            have w1 := kept_cell hb o1
            have wz := Nat.lt_of_lt_of_le z0 hb.size
            have wo := Nat.lt_of_lt_of_le zo hb.size
            go_wp2
            exact ⟨rfl, rfl, Below.refl _ _, _, rfl, rfl, (fun h => absurd h (by decide))⟩
          · intro vals x hb hf
            simp only [fillS, List.getD_cons_succ, List.getD_cons_zero, Act.put, List.setIfInBounds_toArray, List.set_cons_zero, List.set_cons_succ]
            have h3 : vals 3 = .slice (some ⟨bb, off, none⟩) l.length lc := hf.1
            rw [h3]
            clear h3
            have h4 : vals 4 = .int .i64 d := hf.2.1
            rw [h4]
            clear h4
            clear hf
            have w0 := kept_cell hb t0
            have w1 := kept_cell hb o1
            have wz := Nat.lt_of_lt_of_le z0 hb.size
            have wo := Nat.lt_of_lt_of_le zo hb.size
            go_wp2
            exact ⟨rfl, rfl, Below.refl _ _, _, rfl, rfl, (fun h => absurd h (by decide))⟩
          · intro vals x hb hf
            simp only [fillS, List.getD_cons_succ, List.getD_cons_zero, Act.put, List.setIfInBounds_toArray, List.set_cons_zero, List.set_cons_succ]
            have h5 : vals 5 = .pointer (some ⟨bb, off + d * 3, none⟩) := hf.1
            rw [h5]
            clear h5
            clear hf
            have w0 := kept_cell hb t0
            have w1 := kept_cell hb o1
            have wz := Nat.lt_of_lt_of_le z0 hb.size
            have wo := Nat.lt_of_lt_of_le zo hb.size
            go_wp2
            exact ⟨rfl, rfl, Below.refl _ _, _, rfl, rfl, (fun h => absurd h (by decide))⟩
          · intro vals x hb hf
            simp only [fillS, List.getD_cons_succ, List.getD_cons_zero, Act.put, List.setIfInBounds_toArray, List.set_cons_zero, List.set_cons_succ]
            have h6 : vals 6 = .pointer (some ⟨bb, off + d * 3, none⟩) := hf.1
            rw [h6]
            clear h6
            clear hf
            have w0 := kept_cell hb t0
            have w1 := kept_cell hb o1
            have wz := Nat.lt_of_lt_of_le z0 hb.size
            have wo := Nat.lt_of_lt_of_le zo hb.size
            go_wp2
            exact ⟨rfl, rfl, Below.refl _ _, _, rfl, rfl, (fun h => absurd h (by decide))⟩
          · intro vals x hb hf
            simp only [fillS, List.getD_cons_succ, List.getD_cons_zero, Act.put, List.setIfInBounds_toArray, List.set_cons_zero, List.set_cons_succ]
            have h2 : vals 2 = .int .i64 (f + bn) := hf.1
            rw [h2]
            clear h2
            have h7 : vals 7 = .int .i64 yf := hf.2.1
            rw [h7]
            clear h7
            clear hf
            have w0 := kept_cell hb t0
            have w1 := kept_cell hb o1
            have wz := Nat.lt_of_lt_of_le z0 hb.size
            have wo := Nat.lt_of_lt_of_le zo hb.size
            go_wp2
            exact ⟨rfl, rfl, Below.refl _ _, _, rfl, rfl, (fun h => absurd h (by decide))⟩
          · intro vals x hb hf
            simp only [fillS, List.getD_cons_succ, List.getD_cons_zero, Act.put, List.setIfInBounds_toArray, List.set_cons_zero, List.set_cons_succ]
            clear hf
            have w0 := kept_cell hb t0
            have w1 := kept_cell hb o1
            have wz := Nat.lt_of_lt_of_le z0 hb.size
            have wo := Nat.lt_of_lt_of_le zo hb.size
            go_wp2
            exact ⟨rfl, rfl, Below.refl _ _, _, rfl, rfl, (fun h => absurd h (by decide))⟩
          · intro vals x hb hf
            simp only [fillS, List.getD_cons_succ, List.getD_cons_zero, Act.put, List.setIfInBounds_toArray, List.set_cons_zero, List.set_cons_succ]
            clear hf
            have w0 := kept_cell hb t0
            have w1 := kept_cell hb o1
            have wz := Nat.lt_of_lt_of_le z0 hb.size
            have wo := Nat.lt_of_lt_of_le zo hb.size
            go_wp2
            exact ⟨rfl, rfl, Below.refl _ _, _, rfl, rfl, (fun h => absurd h (by decide))⟩
          · intro vals x hb hf
            simp only [fillS, List.getD_cons_succ, List.getD_cons_zero, Act.put, List.setIfInBounds_toArray, List.set_cons_zero, List.set_cons_succ]
            clear hf
            have w0 := kept_cell hb t0
            have w1 := kept_cell hb o1
            have wz := Nat.lt_of_lt_of_le z0 hb.size
            have wo := Nat.lt_of_lt_of_le zo hb.size
            go_wp2
            exact ⟨rfl, rfl, Below.refl _ _, _, rfl, rfl, (fun h => absurd h (by decide))⟩
          · intro vals x hb hf
            simp only [fillS, List.getD_cons_succ, List.getD_cons_zero, Act.put, List.setIfInBounds_toArray, List.set_cons_zero, List.set_cons_succ]
            have h10 : vals 10 = .slice (some ⟨bb, off, none⟩) l.length lc := hf.1
            rw [h10]
            clear h10
            have h11 : vals 11 = .int .i64 d := hf.2.1
            rw [h11]
            clear h11
            clear hf
            have w0 := kept_cell hb t0
            have w1 := kept_cell hb o1
            have wz := Nat.lt_of_lt_of_le z0 hb.size
            have wo := Nat.lt_of_lt_of_le zo hb.size
            go_wp2
            exact ⟨rfl, rfl, Below.refl _ _, _, rfl, rfl, (fun h => absurd h (by decide))⟩
          · intro vals x hb hf
            simp only [fillS, List.getD_cons_succ, List.getD_cons_zero, Act.put, List.setIfInBounds_toArray, List.set_cons_zero, List.set_cons_succ]
            have h12 : vals 12 = .pointer (some ⟨bb, off + d * 3, none⟩) := hf.1
            rw [h12]
            clear h12
            clear hf
            have w0 := kept_cell hb t0
            have w1 := kept_cell hb o1
            have wz := Nat.lt_of_lt_of_le z0 hb.size
            have wo := Nat.lt_of_lt_of_le zo hb.size
            go_wp2
            exact ⟨rfl, rfl, Below.refl _ _, _, rfl, rfl, (fun h => absurd h (by decide))⟩
          · intro vals x hb hf
            simp only [fillS, List.getD_cons_succ, List.getD_cons_zero, Act.put, List.setIfInBounds_toArray, List.set_cons_zero, List.set_cons_succ]
            have h13 : vals 13 = .pointer (some ⟨bb, off + d * 3, none⟩) := hf.1
            rw [h13]
            clear h13
            clear hf
            have w0 := kept_cell hb t0
            have w1 := kept_cell hb o1
            have wz := Nat.lt_of_lt_of_le z0 hb.size
            have wo := Nat.lt_of_lt_of_le zo hb.size
            go_wp2
            exact ⟨rfl, rfl, Below.refl _ _, _, rfl, rfl, (fun h => absurd h (by decide))⟩
          · intro vals x hb hf
            simp only [fillS, List.getD_cons_succ, List.getD_cons_zero, Act.put, List.setIfInBounds_toArray, List.set_cons_zero, List.set_cons_succ]
            have h9 : vals 9 = .int .i64 (f + bn) := hf.1
            rw [h9]
            clear h9
            have h14 : vals 14 = .int .i64 yf := hf.2.1
            rw [h14]
            clear h14
            clear hf
            have w0 := kept_cell hb t0
            have w1 := kept_cell hb o1
            have wz := Nat.lt_of_lt_of_le z0 hb.size
            have wo := Nat.lt_of_lt_of_le zo hb.size
            go_wp2
            exact ⟨rfl, rfl, Below.refl _ _, _, rfl, rfl, (fun h => absurd h (by decide))⟩
          · intro vals x hb hf
            simp only [fillS, List.getD_cons_succ, List.getD_cons_zero, Act.put, List.setIfInBounds_toArray, List.set_cons_zero, List.set_cons_succ]
            have h8 : vals 8 = .int .i64 (f + bn - yf) := hf.1
            rw [h8]
            clear h8
            have h15 : vals 15 = .int .i64 (f + bn + yf) := hf.2.1
            rw [h15]
            clear h15
            clear hf
            have w0 := kept_cell hb t0
            have w1 := kept_cell hb o1
            have wz := Nat.lt_of_lt_of_le z0 hb.size
            have wo := Nat.lt_of_lt_of_le zo hb.size
            go_wp2
            exact ⟨rfl, rfl, Below.refl _ _, _, rfl, rfl, (fun h => absurd h (by decide))⟩
          · intro vals x hb hf
            simp only [fillS, List.getD_cons_succ, List.getD_cons_zero, Act.put, List.setIfInBounds_toArray, List.set_cons_zero, List.set_cons_succ]
            have h16 : vals 16 = .agg #[.int .i64 (f + bn - yf), .int .i64 (f + bn + yf)] := hf.1
            rw [h16]
            clear h16
            clear hf
            have w0 := kept_cell hb t0
            have w1 := kept_cell hb o1
            have wz := Nat.lt_of_lt_of_le z0 hb.size
            have wo := Nat.lt_of_lt_of_le zo hb.size
            go_wp2
            exact ⟨rfl, rfl, (Below.refl _ _).alloc (Nat.le_refl _) _, _, rfl, ⟨_, rfl, hb.size, World.alloc_heap_new _ _⟩, (fun h => absurd h (by decide))⟩
          · intro vals x hb hf
            simp only [fillS, List.getD_cons_succ, List.getD_cons_zero, Act.put, List.setIfInBounds_toArray, List.set_cons_zero, List.set_cons_succ]
            have f17 : (SlIs Y.heap.size [.int .i64 (f + bn - yf), .int .i64 (f + bn + yf)] 55) (vals 17) x := hf.1
            clear hf
            have w0 := kept_cell hb t0
            have w1 := kept_cell hb o1
            have wz := Nat.lt_of_lt_of_le z0 hb.size
            have wo := Nat.lt_of_lt_of_le zo hb.size
            obtain ⟨b1, hv17, hb1, hbk1⟩ := f17
            rw [hv17]
            go_wp2
            exact ⟨rfl, rfl, (Below.refl _ _).alloc (Nat.le_refl _) _, _, rfl, ⟨_, b1, rfl, hb.size, hb1, World.alloc_heap_new _ _, kept_block ((Below.refl _ _).alloc (Nat.le_refl _) _) hbk1⟩, (fun h => absurd h (by decide))⟩
        intro vals x hb hf hp
        have hrange : List.range 19 = [0, 1, 2, 3, 4, 5, 6, 7, 8, 9, 10, 11, 12, 13, 14, 15, 16, 17, 18] := by rfl
        rw [hrange]
        simp only [fillS, List.getD_cons_succ, List.getD_cons_zero, Act.put, List.setIfInBounds_toArray, List.set_cons_zero, List.set_cons_succ]
        have h0 : vals 0 = .pointer (some ⟨W2.heap.size, 1, none⟩) := hf 0 (by omega)
        have h1 : vals 1 = .slice va ss.length vc := hf 1 (by omega)
        have h2 : vals 2 = .int .i64 (f + bn) := hf 2 (by omega)
        have h3 : vals 3 = .slice (some ⟨bb, off, none⟩) l.length lc := hf 3 (by omega)
        have h4 : vals 4 = .int .i64 d := hf 4 (by omega)
        have h5 : vals 5 = .pointer (some ⟨bb, off + d * 3, none⟩) := hf 5 (by omega)
        have h6 : vals 6 = .pointer (some ⟨bb, off + d * 3, none⟩) := hf 6 (by omega)
        have h7 : vals 7 = .int .i64 yf := hf 7 (by omega)
        have h8 : vals 8 = .int .i64 (f + bn - yf) := hf 8 (by omega)
        have h9 : vals 9 = .int .i64 (f + bn) := hf 9 (by omega)
        have h10 : vals 10 = .slice (some ⟨bb, off, none⟩) l.length lc := hf 10 (by omega)
        have h11 : vals 11 = .int .i64 d := hf 11 (by omega)
        have h12 : vals 12 = .pointer (some ⟨bb, off + d * 3, none⟩) := hf 12 (by omega)
        have h13 : vals 13 = .pointer (some ⟨bb, off + d * 3, none⟩) := hf 13 (by omega)
        have h14 : vals 14 = .int .i64 yf := hf 14 (by omega)
        have h15 : vals 15 = .int .i64 (f + bn + yf) := hf 15 (by omega)
        have h16 : vals 16 = .agg #[.int .i64 (f + bn - yf), .int .i64 (f + bn + yf)] := hf 16 (by omega)
        have f17 : (SlIs Y.heap.size [.int .i64 (f + bn - yf), .int .i64 (f + bn + yf)] 55) (vals 17) x := hf 17 (by omega)
        have f18 : (SlIs2 Y.heap.size [.int .i64 (f + bn - yf), .int .i64 (f + bn + yf)] 55 22) (vals 18) x := hf 18 (by omega)
        rw [h0, h1, h2, h3, h4, h5, h6, h7, h8, h9, h10, h11, h12, h13, h14, h15, h16]
        clear h0 h1 h2 h3 h4 h5 h6 h7 h8 h9 h10 h11 h12 h13 h14 h15 h16 hf hp hrange
        simp only [List.drop_succ_cons, List.drop_zero]
        obtain ⟨b2, b1, hv18, hq2, hq1, hk2, hk1⟩ := f18
        rw [show vals 18 = _ from hv18]
        clear f17 hv18
        generalize vals 17 = v17
        have hGx := hGYh.out.mono hb
        have hcell : ∀ k i u, k < ([⟨some ⟨b1, 0, none⟩, 1, 1⟩] : List Slc).length → (slEnc (([⟨some ⟨b1, 0, none⟩, 1, 1⟩] : List Slc).getD k ⟨none, 0, 0⟩))[i]? = some u → x.cell? ⟨b2, 0 + k * 1 + i, none⟩ = some u := by
          intro k i u hk hu
          obtain rfl : k = 0 := by simpa using hk
          match i, hu with
          | 0, hu => cases hu; exact rc1 hk2
          | i + 1, hu => simp at hu
        have hBx := hGx.size
        have hsx1 := hs1.mono hb
        have hsr : ∀ q, (Value.slice ra RR.length rc).ownBlock = some q → q < Y.heap.size := fun q e => (hGYh.out.reads.lt q e).2
        have hsw : ∀ q, (Value.slice va ss.length vc).ownBlock = some q → q < Y.heap.size := fun q e => (hs1.lt q e).2
        have hxs := hb.size
        have hbxx := hGx.box
        go_wp2_with (at_builtin; refine wpList_app_all (enc := slEnc) slEnc_len ⟨none, 0, 0⟩ 23 22 _ 24 Try.underlying23 infoSlS rfl (by omega) (by omega) slEnc_one (by rfl) _ _ (by rfl) (W2.heap.size + 1) x (.slice va ss.length vc) ss [⟨some ⟨b1, 0, none⟩, 1, 1⟩] (by rfl) hsx1 b2 0 1 (by rfl) hcell (by omega) (by simp) hBx ?_; intro v3 w3 ho3 hg3 hat3; obtain ⟨a3, c3, he3⟩ := ho3.slice; rw [show (ss ++ [(⟨some ⟨b1, 0, none⟩, 1, 1⟩ : Slc)]).length = ss.length + 1 by simp] at he3; subst he3; have hbx3 : w3.heap[W2.heap.size]? = some (bkA (.slice (some ⟨W1.heap.size, 0, none⟩) 1 1) (.slice va ss.length vc) (.slice ra RR.length rc)) := (hg3.block _ (Array.getElem?_eq_some_iff.1 hbxx).1 (fun e => by have := (hsx1.lt _ e.symm).1; omega)).trans hbxx; obtain ⟨p0, p1, p2⟩ := rc3 hbx3; obtain ⟨k0, k1, k2⟩ := rf3 hbx3; have zx := (Array.getElem?_eq_some_iff.1 hbx3).1)
        refine OnlyN.mk ?_
        have hown := OwnRs.app (s := ⟨some ⟨b1, 0, none⟩, 1, 1⟩) (row := [(⟨f + bn - yf, f + bn + yf⟩ : Sp)]) hsx1 hs2.out (fun i hi => ⟨(hs3 i hi).1.mono hb, (hs3 i hi).2⟩) hfar (own_oneS (enc := spEnc) (m := 2) ⟨f + bn - yf, f + bn + yf⟩ rfl (Nat.le_trans hGYh.out.size hq1) hk1)
          (fun q e => by
            obtain rfl : b1 = q := by simpa [Value.ownBlock] using e
            exact ⟨fun e' => by have := hsw _ e'; omega, fun e' => by have := hsr _ e'; omega⟩) ho3 hg3 (by rcases hat3 with e | e; exact .inl e; exact .inr ⟨_, e, Nat.le_refl _⟩) (fun k hk e => by have := hsr _ e; omega)
        have hGZ := hGx.flow hg3 hown (fun k e => (hsx1.lt k e).1) (fun k e => hfar k e)
        rw [← hF2.out] at hGZ
        have hGZh := Lib.hid hGZ
        generalize w3.setCell ⟨W2.heap.size, 1, none⟩ (.slice a3 (ss.length + 1) c3) = Z at *
        clear hown hGZ ho3 hg3 hat3 hbx3 p0 p1 p2 k0 k1 k2 zx hGx hcell hBx hsx1 hsr hsw hxs hbxx hk1 hk2 hGYh hs1 hs2 hs3 hfar o0 o1 o2 zo t0 z0 hb
        generalize ss.length + 1 = sn at *
        have t1 := kept_cell hGZh.out.bel s1
        have t2 := kept_cell hGZh.out.bel s2
        have t4 := kept_cell hGZh.out.bel x2
        have z0 := Nat.lt_of_lt_of_le hbb hGZh.out.bel.size
        have z4 := Nat.lt_of_lt_of_le hc2 hGZh.out.bel.size
        cases yr
        · have hR := hRn2.out rfl
          have hfin : Hid (SdSt W2 (.slice (some ⟨W1.heap.size, 0, none⟩) 1 1) (sdF l fl wrg (d + 1)) (sdR l first fl size since wrg (d + 1)) (.slice a3 sn c3) (.slice ra RR.length rc) Z) := Lib.hid (by rw [hFe.out, hRe.out, hR]; exact hGZh.out)
          have hNN : Hid ((Value.int .i64 N : Value) = .int .i64 (nowT first fl size since (d + 1))) := Lib.hid (by rw [hNe.out])
          clear hR hGZh
          go_wp2_with fail
          exact ⟨⟨d + 1, _, _, by omega, by go_num, hNN.out, hfin⟩, by simp [intOf]; omega⟩
        · have kT3 := Lib.hid (fun gg : Grow Z => (kT2.out gg.x).mono (fun e w' (h : e = .returned (.int .i64 (bentI (gq.tdiv 7) yc)) ∧ gg.x = w') => (⟨h.1, by rw [← h.2]; exact Below.refl _ _⟩ : e = .returned (.int .i64 (bentI (gq.tdiv 7) yc)) ∧ Below gg.x.heap.size gg.x w')))
          have hRq := Lib.hid (hRy2.out rfl)
          clear hRy2 hRn2 kT2
          go_upto_region 12 with fail
          have hgZ := grow_cell Z
          refine wp_region_grow (by kernel_rfl) (by kernel_rfl) ?_
          repeat (go_big_quiet_step ((first | (with_reducible exact Calls.grow (kT3.out _)))))
          refine wpQuiet_nil ?_
          rintro _ ⟨g, rfl⟩
          clear hgZ t1 t2 t4 z0 z4
          have hYb := g.h
          generalize g.x = Y2 at *
          have hGY := hGZh.out.mono hYb
          clear hGZh hYb kT3
          generalize bentI (gq.tdiv 7) yc = bn2 at *
          obtain ⟨o0, o1, o2⟩ := rc3 hGY.box
          have zo := (Array.getElem?_eq_some_iff.1 hGY.box).1
          have t2 := kept_cell hGY.bel s2
          have z0 := Nat.lt_of_lt_of_le hbb hGY.bel.size
          have hGYh := Lib.hid hGY
          clear hGY
          go_upto_region 13 with fail
          refine plain_region (by kernel_rfl) (any_region_locN 20 118 [] [95, 96, 97, 98, 99, 100, 101, 102, 103, 104, 105, 106, 107, 108, 109, 110, 111, 112, 113, 114] [[], [0], [], [], [], [], [4, 5], [6], [7], [3, 8], [], [], [], [11, 12], [13], [14], [10, 15], [9, 16], [2, 17], [18]] [IsV (.pointer (some ⟨W2.heap.size, 2, none⟩)), IsV (.slice ra RR.length rc), IsV (.int .i64 d), IsV (.int .i64 (N + bn2)), IsV (.slice (some ⟨bb, off, none⟩) l.length lc), IsV (.int .i64 d), IsV (.pointer (some ⟨bb, off + d * 3, none⟩)), IsV (.pointer (some ⟨bb, off + d * 3 + 2, none⟩)), IsV (.int .i64 yc), IsV (.int .i64 (N + bn2 - yc)), IsV (.int .i64 (N + bn2)), IsV (.slice (some ⟨bb, off, none⟩) l.length lc), IsV (.int .i64 d), IsV (.pointer (some ⟨bb, off + d * 3, none⟩)), IsV (.pointer (some ⟨bb, off + d * 3 + 2, none⟩)), IsV (.int .i64 yc), IsV (.int .i64 (N + bn2 + yc)), IsV (.agg #[.int .i64 (N + bn2 - yc), .int .i64 (N + bn2 + yc)]), IsV (.agg #[.int .i64 d, .int .i64 0, .int .i64 (N + bn2 - yc), .int .i64 (N + bn2 + yc)]), SlIs Y2.heap.size [.int .i64 d, .int .i64 0, .int .i64 (N + bn2 - yc), .int .i64 (N + bn2 + yc)] 57] [] (by kernel_rfl) (by kernel_rfl) (by kernel_rfl) (by kernel_rfl) (by kernel_rfl) rfl OnlyN.panic ?_ ?_ ?_ (fun j hj => nomatch hj) ?_)
          · exact List.forall_mem_cons.2 ⟨pers_v _, List.forall_mem_cons.2 ⟨pers_v _, List.forall_mem_cons.2 ⟨pers_v _, List.forall_mem_cons.2 ⟨pers_v _, List.forall_mem_cons.2 ⟨pers_v _, List.forall_mem_cons.2 ⟨pers_v _, List.forall_mem_cons.2 ⟨pers_v _, List.forall_mem_cons.2 ⟨pers_v _, List.forall_mem_cons.2 ⟨pers_v _, List.forall_mem_cons.2 ⟨pers_v _, List.forall_mem_cons.2 ⟨pers_v _, List.forall_mem_cons.2 ⟨pers_v _, List.forall_mem_cons.2 ⟨pers_v _, List.forall_mem_cons.2 ⟨pers_v _, List.forall_mem_cons.2 ⟨pers_v _, List.forall_mem_cons.2 ⟨pers_v _, List.forall_mem_cons.2 ⟨pers_v _, List.forall_mem_cons.2 ⟨pers_v _, List.forall_mem_cons.2 ⟨pers_v _, List.forall_mem_cons.2 ⟨pers_sl _ _ _, fun f h => nomatch h⟩⟩⟩⟩⟩⟩⟩⟩⟩⟩⟩⟩⟩⟩⟩⟩⟩⟩⟩⟩
          · intro k hk; cases hk
          · refine ⟨?_, ?_, ?_, ?_, ?_, ?_, ?_, ?_, ?_, ?_, ?_, ?_, ?_, ?_, ?_, ?_, ?_, ?_, ?_, ?_, trivial⟩
            · intro vals x hb hf
              simp only [fillS, List.getD_cons_succ, List.getD_cons_zero, Act.put, List.setIfInBounds_toArray, List.set_cons_zero, List.set_cons_succ]
              clear hf
              have w0 := kept_cell hb t2
              have w1 := kept_cell hb o2
              have wz := Nat.lt_of_lt_of_le z0 hb.size
              have wo := Nat.lt_of_lt_of_le zo hb.size
              go_wp2
              exact ⟨rfl, rfl, Below.refl _ _, _, rfl, rfl, (fun h => absurd h (by decide))⟩
            · intro vals x hb hf
              simp only [fillS, List.getD_cons_succ, List.getD_cons_zero, Act.put, List.setIfInBounds_toArray, List.set_cons_zero, List.set_cons_succ]
              have h0 : vals 0 = .pointer (some ⟨W2.heap.size, 2, none⟩) := hf.1
              rw [h0]
              clear h0
              clear hf
              have w0 := kept_cell hb t2
              have w1 := kept_cell hb o2
              have wz := Nat.lt_of_lt_of_le z0 hb.size
              have wo := Nat.lt_of_lt_of_le zo hb.size
              go_wp2
              exact ⟨rfl, rfl, Below.refl _ _, _, rfl, rfl, (fun h => absurd h (by decide))⟩
            · intro vals x hb hf
              simp only [fillS, List.getD_cons_succ, List.getD_cons_zero, Act.put, List.setIfInBounds_toArray, List.set_cons_zero, List.set_cons_succ]
              clear hf
              have w0 := kept_cell hb t2
              have w1 := kept_cell hb o2
              have wz := Nat.lt_of_lt_of_le z0 hb.size
              have wo := Nat.lt_of_lt_of_le zo hb.size
              go_wp2
              exact ⟨rfl, rfl, Below.refl _ _, _, rfl, rfl, (fun h => absurd h (by decide))⟩
            · intro vals x hb hf
              simp only [fillS, List.getD_cons_succ, List.getD_cons_zero, Act.put, List.setIfInBounds_toArray, List.set_cons_zero, List.set_cons_succ]
              clear hf
              have w0 := kept_cell hb t2
              have w1 := kept_cell hb o2
              have wz := Nat.lt_of_lt_of_le z0 hb.size
              have wo := Nat.lt_of_lt_of_le zo hb.size
              go_wp2
              exact ⟨rfl, rfl, Below.refl _ _, _, rfl, rfl, (fun h => absurd h (by decide))⟩
            · intro vals x hb hf
              simp only [fillS, List.getD_cons_succ, List.getD_cons_zero, Act.put, List.setIfInBounds_toArray, List.set_cons_zero, List.set_cons_succ]
              clear hf
              have w0 := kept_cell hb t2
              have w1 := kept_cell hb o2
              have wz := Nat.lt_of_lt_of_le z0 hb.size
              have wo := Nat.lt_of_lt_of_le zo hb.size
              go_wp2
              exact ⟨rfl, rfl, Below.refl _ _, _, rfl, rfl, (fun h => absurd h (by decide))⟩
            · intro vals x hb hf
              simp only [fillS, List.getD_cons_succ, List.getD_cons_zero, Act.put, List.setIfInBounds_toArray, List.set_cons_zero, List.set_cons_succ]
              clear hf
              have w0 := kept_cell hb t2
              have w1 := kept_cell hb o2
              have wz := Nat.lt_of_lt_of_le z0 hb.size
              have wo := Nat.lt_of_lt_of_le zo hb.size
              go_wp2
              exact ⟨rfl, rfl, Below.refl _ _, _, rfl, rfl, (fun h => absurd h (by decide))⟩
            · intro vals x hb hf
              simp only [fillS, List.getD_cons_succ, List.getD_cons_zero, Act.put, List.setIfInBounds_toArray, List.set_cons_zero, List.set_cons_succ]
              have h4 : vals 4 = .slice (some ⟨bb, off, none⟩) l.length lc := hf.1
              rw [h4]
              clear h4
              have h5 : vals 5 = .int .i64 d := hf.2.1
              rw [h5]
              clear h5
              clear hf
              have w0 := kept_cell hb t2
              have w1 := kept_cell hb o2
              have wz := Nat.lt_of_lt_of_le z0 hb.size
              have wo := Nat.lt_of_lt_of_le zo hb.size
              go_wp2
              exact ⟨rfl, rfl, Below.refl _ _, _, rfl, rfl, (fun h => absurd h (by decide))⟩
            · intro vals x hb hf
              simp only [fillS, List.getD_cons_succ, List.getD_cons_zero, Act.put, List.setIfInBounds_toArray, List.set_cons_zero, List.set_cons_succ]
              have h6 : vals 6 = .pointer (some ⟨bb, off + d * 3, none⟩) := hf.1
              rw [h6]
              clear h6
              clear hf
              have w0 := kept_cell hb t2
              have w1 := kept_cell hb o2
              have wz := Nat.lt_of_lt_of_le z0 hb.size
              have wo := Nat.lt_of_lt_of_le zo hb.size
              go_wp2
              exact ⟨rfl, rfl, Below.refl _ _, _, rfl, rfl, (fun h => absurd h (by decide))⟩
            · intro vals x hb hf
              simp only [fillS, List.getD_cons_succ, List.getD_cons_zero, Act.put, List.setIfInBounds_toArray, List.set_cons_zero, List.set_cons_succ]
              have h7 : vals 7 = .pointer (some ⟨bb, off + d * 3 + 2, none⟩) := hf.1
              rw [h7]
              clear h7
              clear hf
              have w0 := kept_cell hb t2
              have w1 := kept_cell hb o2
              have wz := Nat.lt_of_lt_of_le z0 hb.size
              have wo := Nat.lt_of_lt_of_le zo hb.size
              go_wp2
              exact ⟨rfl, rfl, Below.refl _ _, _, rfl, rfl, (fun h => absurd h (by decide))⟩
            · intro vals x hb hf
              simp only [fillS, List.getD_cons_succ, List.getD_cons_zero, Act.put, List.setIfInBounds_toArray, List.set_cons_zero, List.set_cons_succ]
              have h3 : vals 3 = .int .i64 (N + bn2) := hf.1
              rw [h3]
              clear h3
              have h8 : vals 8 = .int .i64 yc := hf.2.1
              rw [h8]
              clear h8
              clear hf
              have w0 := kept_cell hb t2
              have w1 := kept_cell hb o2
              have wz := Nat.lt_of_lt_of_le z0 hb.size
              have wo := Nat.lt_of_lt_of_le zo hb.size
              go_wp2
              exact ⟨rfl, rfl, Below.refl _ _, _, rfl, rfl, (fun h => absurd h (by decide))⟩
            · intro vals x hb hf
              simp only [fillS, List.getD_cons_succ, List.getD_cons_zero, Act.put, List.setIfInBounds_toArray, List.set_cons_zero, List.set_cons_succ]
              clear hf
              have w0 := kept_cell hb t2
              have w1 := kept_cell hb o2
              have wz := Nat.lt_of_lt_of_le z0 hb.size
              have wo := Nat.lt_of_lt_of_le zo hb.size
              go_wp2
              exact ⟨rfl, rfl, Below.refl _ _, _, rfl, rfl, (fun h => absurd h (by decide))⟩
            · intro vals x hb hf
              simp only [fillS, List.getD_cons_succ, List.getD_cons_zero, Act.put, List.setIfInBounds_toArray, List.set_cons_zero, List.set_cons_succ]
              clear hf
              have w0 := kept_cell hb t2
              have w1 := kept_cell hb o2
              have wz := Nat.lt_of_lt_of_le z0 hb.size
              have wo := Nat.lt_of_lt_of_le zo hb.size
              go_wp2
              exact ⟨rfl, rfl, Below.refl _ _, _, rfl, rfl, (fun h => absurd h (by decide))⟩
            · intro vals x hb hf
              simp only [fillS, List.getD_cons_succ, List.getD_cons_zero, Act.put, List.setIfInBounds_toArray, List.set_cons_zero, List.set_cons_succ]
              clear hf
              have w0 := kept_cell hb t2
              have w1 := kept_cell hb o2
              have wz := Nat.lt_of_lt_of_le z0 hb.size
              have wo := Nat.lt_of_lt_of_le zo hb.size
              go_wp2
              exact ⟨rfl, rfl, Below.refl _ _, _, rfl, rfl, (fun h => absurd h (by decide))⟩
            · intro vals x hb hf
              simp only [fillS, List.getD_cons_succ, List.getD_cons_zero, Act.put, List.setIfInBounds_toArray, List.set_cons_zero, List.set_cons_succ]
              have h11 : vals 11 = .slice (some ⟨bb, off, none⟩) l.length lc := hf.1
              rw [h11]
              clear h11
              have h12 : vals 12 = .int .i64 d := hf.2.1
              rw [h12]
              clear h12
              clear hf
              have w0 := kept_cell hb t2
              have w1 := kept_cell hb o2
              have wz := Nat.lt_of_lt_of_le z0 hb.size
              have wo := Nat.lt_of_lt_of_le zo hb.size
              go_wp2
              exact ⟨rfl, rfl, Below.refl _ _, _, rfl, rfl, (fun h => absurd h (by decide))⟩
            · intro vals x hb hf
              simp only [fillS, List.getD_cons_succ, List.getD_cons_zero, Act.put, List.setIfInBounds_toArray, List.set_cons_zero, List.set_cons_succ]
              have h13 : vals 13 = .pointer (some ⟨bb, off + d * 3, none⟩) := hf.1
              rw [h13]
              clear h13
              clear hf
              have w0 := kept_cell hb t2
              have w1 := kept_cell hb o2
              have wz := Nat.lt_of_lt_of_le z0 hb.size
              have wo := Nat.lt_of_lt_of_le zo hb.size
              go_wp2
              exact ⟨rfl, rfl, Below.refl _ _, _, rfl, rfl, (fun h => absurd h (by decide))⟩
            · intro vals x hb hf
              simp only [fillS, List.getD_cons_succ, List.getD_cons_zero, Act.put, List.setIfInBounds_toArray, List.set_cons_zero, List.set_cons_succ]
              have h14 : vals 14 = .pointer (some ⟨bb, off + d * 3 + 2, none⟩) := hf.1
              rw [h14]
              clear h14
              clear hf
              have w0 := kept_cell hb t2
              have w1 := kept_cell hb o2
              have wz := Nat.lt_of_lt_of_le z0 hb.size
              have wo := Nat.lt_of_lt_of_le zo hb.size
              go_wp2
              exact ⟨rfl, rfl, Below.refl _ _, _, rfl, rfl, (fun h => absurd h (by decide))⟩
            · intro vals x hb hf
              simp only [fillS, List.getD_cons_succ, List.getD_cons_zero, Act.put, List.setIfInBounds_toArray, List.set_cons_zero, List.set_cons_succ]
              have h10 : vals 10 = .int .i64 (N + bn2) := hf.1
              rw [h10]
              clear h10
              have h15 : vals 15 = .int .i64 yc := hf.2.1
              rw [h15]
              clear h15
              clear hf
              have w0 := kept_cell hb t2
              have w1 := kept_cell hb o2
              have wz := Nat.lt_of_lt_of_le z0 hb.size
              have wo := Nat.lt_of_lt_of_le zo hb.size
              go_wp2
              exact ⟨rfl, rfl, Below.refl _ _, _, rfl, rfl, (fun h => absurd h (by decide))⟩
            · intro vals x hb hf
              simp only [fillS, List.getD_cons_succ, List.getD_cons_zero, Act.put, List.setIfInBounds_toArray, List.set_cons_zero, List.set_cons_succ]
              have h9 : vals 9 = .int .i64 (N + bn2 - yc) := hf.1
              rw [h9]
              clear h9
              have h16 : vals 16 = .int .i64 (N + bn2 + yc) := hf.2.1
              rw [h16]
              clear h16
              clear hf
              have w0 := kept_cell hb t2
              have w1 := kept_cell hb o2
              have wz := Nat.lt_of_lt_of_le z0 hb.size
              have wo := Nat.lt_of_lt_of_le zo hb.size
              go_wp2
              exact ⟨rfl, rfl, Below.refl _ _, _, rfl, rfl, (fun h => absurd h (by decide))⟩
            · intro vals x hb hf
              simp only [fillS, List.getD_cons_succ, List.getD_cons_zero, Act.put, List.setIfInBounds_toArray, List.set_cons_zero, List.set_cons_succ]
              have h2 : vals 2 = .int .i64 d := hf.1
              rw [h2]
              clear h2
              have h17 : vals 17 = .agg #[.int .i64 (N + bn2 - yc), .int .i64 (N + bn2 + yc)] := hf.2.1
              rw [h17]
              clear h17
              clear hf
              have w0 := kept_cell hb t2
              have w1 := kept_cell hb o2
              have wz := Nat.lt_of_lt_of_le z0 hb.size
              have wo := Nat.lt_of_lt_of_le zo hb.size
              go_wp2
              exact ⟨rfl, rfl, Below.refl _ _, _, rfl, rfl, (fun h => absurd h (by decide))⟩
            · intro vals x hb hf
              simp only [fillS, List.getD_cons_succ, List.getD_cons_zero, Act.put, List.setIfInBounds_toArray, List.set_cons_zero, List.set_cons_succ]
              have h18 : vals 18 = .agg #[.int .i64 d, .int .i64 0, .int .i64 (N + bn2 - yc), .int .i64 (N + bn2 + yc)] := hf.1
              rw [h18]
              clear h18
              clear hf
              have w0 := kept_cell hb t2
              have w1 := kept_cell hb o2
              have wz := Nat.lt_of_lt_of_le z0 hb.size
              have wo := Nat.lt_of_lt_of_le zo hb.size
              go_wp2
              exact ⟨rfl, rfl, (Below.refl _ _).alloc (Nat.le_refl _) _, _, rfl, ⟨_, rfl, hb.size, World.alloc_heap_new _ _⟩, (fun h => absurd h (by decide))⟩
          intro vals x hb hf hp
          have hrange : List.range 20 = [0, 1, 2, 3, 4, 5, 6, 7, 8, 9, 10, 11, 12, 13, 14, 15, 16, 17, 18, 19] := by rfl
          rw [hrange]
          simp only [fillS, List.getD_cons_succ, List.getD_cons_zero, Act.put, List.setIfInBounds_toArray, List.set_cons_zero, List.set_cons_succ]
          have h0 : vals 0 = .pointer (some ⟨W2.heap.size, 2, none⟩) := hf 0 (by omega)
          have h1 : vals 1 = .slice ra RR.length rc := hf 1 (by omega)
          have h2 : vals 2 = .int .i64 d := hf 2 (by omega)
          have h3 : vals 3 = .int .i64 (N + bn2) := hf 3 (by omega)
          have h4 : vals 4 = .slice (some ⟨bb, off, none⟩) l.length lc := hf 4 (by omega)
          have h5 : vals 5 = .int .i64 d := hf 5 (by omega)
          have h6 : vals 6 = .pointer (some ⟨bb, off + d * 3, none⟩) := hf 6 (by omega)
          have h7 : vals 7 = .pointer (some ⟨bb, off + d * 3 + 2, none⟩) := hf 7 (by omega)
          have h8 : vals 8 = .int .i64 yc := hf 8 (by omega)
          have h9 : vals 9 = .int .i64 (N + bn2 - yc) := hf 9 (by omega)
          have h10 : vals 10 = .int .i64 (N + bn2) := hf 10 (by omega)
          have h11 : vals 11 = .slice (some ⟨bb, off, none⟩) l.length lc := hf 11 (by omega)
          have h12 : vals 12 = .int .i64 d := hf 12 (by omega)
          have h13 : vals 13 = .pointer (some ⟨bb, off + d * 3, none⟩) := hf 13 (by omega)
          have h14 : vals 14 = .pointer (some ⟨bb, off + d * 3 + 2, none⟩) := hf 14 (by omega)
          have h15 : vals 15 = .int .i64 yc := hf 15 (by omega)
          have h16 : vals 16 = .int .i64 (N + bn2 + yc) := hf 16 (by omega)
          have h17 : vals 17 = .agg #[.int .i64 (N + bn2 - yc), .int .i64 (N + bn2 + yc)] := hf 17 (by omega)
          have h18 : vals 18 = .agg #[.int .i64 d, .int .i64 0, .int .i64 (N + bn2 - yc), .int .i64 (N + bn2 + yc)] := hf 18 (by omega)
          have f19 : (SlIs Y2.heap.size [.int .i64 d, .int .i64 0, .int .i64 (N + bn2 - yc), .int .i64 (N + bn2 + yc)] 57) (vals 19) x := hf 19 (by omega)
          rw [h0, h1, h2, h3, h4, h5, h6, h7, h8, h9, h10, h11, h12, h13, h14, h15, h16, h17, h18]
          clear h0 h1 h2 h3 h4 h5 h6 h7 h8 h9 h10 h11 h12 h13 h14 h15 h16 h17 h18 hf hp hrange
          simp only [List.drop_succ_cons, List.drop_zero]
          obtain ⟨b1, hv19, hq1, hk1⟩ := f19
          rw [show vals 19 = _ from hv19]
          have hGx := hGYh.out.mono hb
          have hBx := hGx.size
          have hbxx := hGx.box
          have hrx := hGx.reads
          have hr32 : RR.length * 32 ≤ 140737488351232 := by omega
          clear hv19 hGYh o0 o1 o2 zo t2 z0
          go_wp2_with (at_builtin; refine wpList_app_rd (by rfl) _ _ (by rfl) (W2.heap.size + 1) x (.slice ra RR.length rc) RR ⟨d, 0, ⟨N + bn2 - yc, N + bn2 + yc⟩⟩ b1 (by rfl) (by rfl) hrx hr32 hBx hk1 ?_; intro v3 w3 ho3 hg3 hat3; obtain ⟨a4, c4, he3⟩ := ho3.slice; rw [show (RR ++ [(⟨d, 0, ⟨N + bn2 - yc, N + bn2 + yc⟩⟩ : Rd)]).length = RR.length + 1 by simp] at he3; subst he3; have hbx3 : w3.heap[W2.heap.size]? = some (bkA (.slice (some ⟨W1.heap.size, 0, none⟩) 1 1) (.slice a3 sn c3) (.slice ra RR.length rc)) := (hg3.block _ (Array.getElem?_eq_some_iff.1 hbxx).1 (fun e => by have := (hrx.lt _ e.symm).1; omega)).trans hbxx; obtain ⟨p0, p1, p2⟩ := rc3 hbx3; obtain ⟨k0, k1, k2⟩ := rf3 hbx3; have zx := (Array.getElem?_eq_some_iff.1 hbx3).1)
          refine OnlyN.mk ?_
          have hGU := hGx.read hg3 ho3 hat3
          rw [← hRq.out] at hGU
          have hfin : Hid (SdSt W2 (.slice (some ⟨W1.heap.size, 0, none⟩) 1 1) (sdF l fl wrg (d + 1)) (sdR l first fl size since wrg (d + 1)) (.slice a3 sn c3) (.slice a4 (RR.length + 1) c4) (w3.setCell ⟨W2.heap.size, 2, none⟩ (.slice a4 (RR.length + 1) c4))) := Lib.hid (by rw [hFe.out, hRe.out]; exact hGU)
          have hNN : Hid ((Value.int .i64 N : Value) = .int .i64 (nowT first fl size since (d + 1))) := Lib.hid (by rw [hNe.out])
          generalize w3.setCell ⟨W2.heap.size, 2, none⟩ (.slice a4 (RR.length + 1) c4) = U at *
          clear hGU ho3 hg3 hat3 hbx3 p0 p1 p2 k0 k1 k2 zx hGx hBx hbxx hrx hk1 hb
          go_wp2_with fail
          exact ⟨⟨d + 1, _, _, by omega, by go_num, hNN.out, hfin⟩, by simp [intOf]; omega⟩
    · obtain rfl : d = last + 1 := by omega
      have hG0 := hG.out
      obtain ⟨va, vc, hva⟩ : ∃ a c, wv = .slice a (sdF l fl wrg (last + 1)).length c := by
        obtain ⟨⟨ss, h1, h2, -⟩, -⟩ := hG0.flows
        obtain ⟨a, c, h⟩ := h1.slice
        exact ⟨a, c, by rw [h, h2]⟩
      obtain ⟨ra, rc, hra⟩ := hG0.reads.slice
      subst hva
      subst hra
      obtain ⟨o0, o1, o2⟩ := rc3 hG0.box
      have zo := (Array.getElem?_eq_some_iff.1 hG0.box).1
      have hrow := kept_block hG0.bel hE0.out
      obtain ⟨f0, f1, f2⟩ := rf3 hrow
      obtain ⟨r0, r1, r2⟩ := rc3 hrow
      have zr := (Array.getElem?_eq_some_iff.1 hrow).1
      have hsp := kept_block hG0.bel hE1.out
      have hfl0 := hG0.flows
      have hrd0 := hG0.reads
      have hwB := below_tr hB2.out hG0.bel
      have hB1 : Hid (saidB l first fl size since wrg (last + 1) = ⟨[⟨-1000000000, 1000000000⟩], sdF l fl wrg (last + 1), sdR l first fl size since wrg (last + 1)⟩) := Lib.hid rfl
      clear hG hG0
      generalize sdF l fl wrg (last + 1) = FF at *
      generalize sdR l first fl size since wrg (last + 1) = RR at *
      go_wp2_with fail
      have hLt : w.heap.size < W2.heap.size + 1 := by have := hlt0.out; omega
      have e1' := set_one hrow 0 (.slice (some ⟨W1.heap.size, 0, none⟩) 1 1)
      simp only [List.setIfInBounds_toArray, List.set_cons_succ, List.set_cons_zero] at e1'
      have e2' := set_one e1' 1 (.slice va FF.length vc)
      simp only [List.setIfInBounds_toArray, List.set_cons_succ, List.set_cons_zero] at e2'
      have e3' := set_one e2' 2 (.slice ra RR.length rc)
      simp only [List.setIfInBounds_toArray, List.set_cons_succ, List.set_cons_zero] at e3'
      have hBf := ((hwB.setCell (p := ⟨w.heap.size, 0, none⟩) (Nat.le_refl _) (.slice (some ⟨W1.heap.size, 0, none⟩) 1 1)).setCell (p := ⟨w.heap.size, 1, none⟩) (Nat.le_refl _) (.slice va FF.length vc)).setCell (p := ⟨w.heap.size, 2, none⟩) (Nat.le_refl _) (.slice ra RR.length rc)
      have hK := (((Kept.refl (fun k => k ≠ w.heap.size) wr).setCell (p := ⟨w.heap.size, 0, none⟩) (.inl fun h => h rfl) (.slice (some ⟨W1.heap.size, 0, none⟩) 1 1)).setCell (p := ⟨w.heap.size, 1, none⟩) (.inl fun h => h rfl) (.slice va FF.length vc)).setCell (p := ⟨w.heap.size, 2, none⟩) (.inl fun h => h rfl) (.slice ra RR.length rc)
      have hrdY := OwnSt.cellset (OwnSt.cellset (OwnSt.cellset hrd0 (p := ⟨w.heap.size, 0, none⟩) hLt (.slice (some ⟨W1.heap.size, 0, none⟩) 1 1)) (p := ⟨w.heap.size, 1, none⟩) hLt (.slice va FF.length vc)) (p := ⟨w.heap.size, 2, none⟩) hLt (.slice ra RR.length rc)
      generalize ((wr.setCell ⟨w.heap.size, 0, none⟩ (.slice (some ⟨W1.heap.size, 0, none⟩) 1 1)).setCell ⟨w.heap.size, 1, none⟩ (.slice va FF.length vc)).setCell ⟨w.heap.size, 2, none⟩ (.slice ra RR.length rc) = Y at *
      have hspY := (hK.block _ (Array.getElem?_eq_some_iff.1 hsp).1 (by have := hlt1.out; omega)).trans hsp
      have hflY := hfl0.kept hK (fun k hk _ => by omega)
      obtain ⟨r0, r1, r2⟩ := rc3 e3'
      refine bodyPost_ret (v := bkV (.slice (some ⟨W1.heap.size, 0, none⟩) 1 1) (.slice va FF.length vc) (.slice ra RR.length rc)) (by simp [results, Try.results42, go_sem, r0, r1, r2]) rfl ?_
      refine ⟨_, _, _, rfl, hBf, ?_⟩
      rw [hB1.out]
      exact ⟨els_blk spEnc_len ⟨0, 0⟩ [⟨-1000000000, 1000000000⟩] hspY rfl (by simp [maxLen]) 1, hflY.at spEnc_len ⟨0, 0⟩, OwnRds.rds hrdY⟩
end Go.Proofs.Ytddmfkhmhdddeaa
