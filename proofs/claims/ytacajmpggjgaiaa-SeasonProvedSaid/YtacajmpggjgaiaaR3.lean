/- Walks of the reference: the tables of the worst costs, and of the proof. -/
import Derived.Test.YtacajmpggjgaiaaR2
import Derived.Test.YtacajmpggjgaiaaP8
set_option linter.unusedVariables false
set_option linter.unusedSimpArgs false
namespace Go.Proofs.Ytacajmpggjgaiaa
open Go.RowKit Go.Sd

/-- A whole row is put into a table. -/
theorem OwnMat.put {B b : Nat} {w w1 : World} {vs : List Value} {rows : List (List Int)} {i : Nat} {v' : Value} {row : List Int} (h : OwnMat B b w vs rows) (hi : i < rows.length)
    (hg : w.grownBy w1 (valAt vs i).ownBlock) (ho : OwnInts B w1 v' (row)) (hat : v'.ownBlock = (valAt vs i).ownBlock ∨ ∃ m, v'.ownBlock = some m ∧ w.heap.size ≤ m) :
    OwnMat B b (w1.setCell ⟨b, i, none⟩ v') (vs.set i v') (rows.set i (row)) := by
  have hiv : i < vs.length := by rw [h.len]; exact hi
  have hlt := (Array.getElem?_eq_some_iff.1 h.heap).1
  have hb1 : w1.heap[b]? = some (.cells vs.toArray 28) := (hg.block b hlt (Ne.symm (h.ne i hi))).trans h.heap
  have hv'b : v'.ownBlock ≠ some b := by
    rcases hat with e | ⟨m, e, hm⟩
    · rw [e]; exact h.ne i hi
    · rw [e]; intro h'; cases h'; omega
  have hset : w1.grownBy (w1.setCell ⟨b, i, none⟩ v') (some b) := ⟨rfl, rfl, rfl, by simp [World.setCell], fun k _ hk => Below.heap_setCell _ _ _ _ (fun e => hk (by rw [e]))⟩
  have away : ∀ j, j < rows.length → j ≠ i → (valAt vs j).ownBlock = none ∨ (valAt vs j).ownBlock ≠ v'.ownBlock := by
    intro j hj hji
    rcases hat with e | ⟨m, e, hm⟩
    · rw [e]; exact h.apart j i hj hi hji
    · rw [e]
      cases hq : (valAt vs j).ownBlock with
      | none => exact .inl rfl
      | some q => exact .inr (by have := ((h.own j hj).lt q hq).2; intro h'; cases h'; omega)
  refine ⟨?_, by simp [h.len], h.low, ?_, ?_, ?_⟩
  · simp only [World.setCell, Array.getElem?_modify, if_true, hb1]
    simp
  · intro j hj
    rw [List.length_set] at hj
    rw [valAt_set hiv, lstAt_set hi]
    by_cases hji : j = i
    · rw [if_pos hji, if_pos hji]
      exact ho.kept hset (.inr hv'b)
    · rw [if_neg hji, if_neg hji]
      exact ((h.own j hj).kept hg (h.apart j i hj hi hji)).kept hset (.inr (h.ne j hj))
  · intro j hj
    rw [List.length_set] at hj
    rw [valAt_set hiv]
    by_cases hji : j = i
    · rw [if_pos hji]; exact hv'b
    · rw [if_neg hji]; exact h.ne j hj
  · intro j k hj hk hjk
    rw [List.length_set] at hj hk
    rw [valAt_set hiv, valAt_set hiv]
    by_cases hji : j = i
    · by_cases hki : k = i
      · omega
      · rw [if_pos hji, if_neg hki]
        rcases away k hk hki with e | e
        · rw [e]; cases hq : v'.ownBlock with
          | none => exact .inl rfl
          | some q => exact .inr (by simp)
        · exact .inr (Ne.symm e)
    · by_cases hki : k = i
      · rw [if_neg hji, if_pos hki]; exact away j hj hji
      · rw [if_neg hji, if_neg hki]; exact h.apart j k hj hk hjk


theorem OwnMat.from {B B' b : Nat} {w : World} {vs : List Value} {rows : List (List Int)} (h : OwnMat B b w vs rows) (hB : B' ≤ B) : OwnMat B' b w vs rows :=
  ⟨h.heap, h.len, Nat.le_trans hB h.low, fun i hi => (h.own i hi).from hB, h.ne, h.apart⟩

theorem OwnInts.slice {B : Nat} {w : World} {v : Value} {xs : List Int} (h : OwnInts B w v xs) : ∃ a n cap, v = .slice a n cap := by
  obtain ⟨_, h2⟩ := h
  rcases h2 with ⟨rfl, _⟩ | ⟨g, cap, cur, rfl, _⟩
  · exact ⟨_, _, _, rfl⟩
  · exact ⟨_, _, _, rfl⟩

theorem tbl_first (n : Nat) (v : Nat → List Int) : (Sea.tbl n v 0 0).set n (v 0) = Sea.tbl n v 1 0 := by
  apply Sea.lists_ext (by simp [Sea.tbl])
  intro t ht
  rw [List.length_set, Sea.tbl_length] at ht
  rw [lstAt_set (by rw [Sea.tbl_length]; omega), Sea.tbl_at n v 1 0 t (by omega)]
  by_cases h : t = n
  · subst h
    rw [if_pos rfl, if_pos (by omega), Nat.sub_self]
  · rw [if_neg h, Sea.tbl_at n v 0 0 t (by omega), if_neg (by omega), if_neg (by omega), if_neg (by omega)]
    split <;> simp

theorem vals_first {s : Sea.S} (ok : Sea.Ok s) (noms : List Int) {j d f : Nat} (hd : d + 1 + j = s.days.length) (hf : (f : Int) ≤ s.space) : Sea.at0 (s.vals noms (j + 1)) f = (s.least d f (Sea.at0 noms d) (s.vals noms j)).1 := by
  have hsp := ok.space
  rw [Sea.S.vals, at0_map (by omega), show s.days.length - 1 - j = d by omega]

theorem at0_some {l : List Int} {f : Nat} (h : f < l.length) : l[f]? = some (Sea.at0 l f) := by
  unfold Sea.at0; simp [h]

set_option maxRecDepth 100000 in
set_option maxHeartbeats 4000000 in
theorem refWorsts (sv : Value) (s : Sea.S) (w : World) (hs : SeasonAt w sv s) (ok : Sea.Ok s) :
    Calls Try.prog 65 #[sv] w fun e w' => ∃ b vs cap, e = .returned (.slice (some ⟨b, 0, none⟩) (s.days.length + 1) cap) ∧ OwnMat w.heap.size b w' vs (Sea.whole s.days.length (wrow s)) ∧ Below w.heap.size w w' := by
  have hs' := hs
  obtain ⟨rv, dv, rfl, -, ⟨da, dcap, rfl, hdm, -⟩⟩ := hs'
  have hsd := ok.ndays
  have hsp := ok.space
  unfold maxLen at hdm
  have hmk := run_make_lists (w.alloc (sBox s rv (.slice da s.days.length dcap))) (s.days.length + 1) (by omega)
  rw [Int.natCast_add, Int.natCast_one] at hmk
  have hlast : Hid (∀ X, Below w.heap.size w X → Calls Try.prog 61 #[(.agg #[.int .i64 s.space, .int .i64 s.start, .int .i64 s.elo, .int .i64 s.ehi, rv, .slice da s.days.length dcap])] X fun e w' => ∃ v, e = .returned v ∧ OwnInts X.heap.size w' v ((wrow s) 0) ∧ Below X.heap.size X w') := fun X hX => refLast _ s X (hs.mono hX) ok
  have hone : Hid (∀ (d j f : Nat) (nv : Value) X, Below w.heap.size w X → d + 1 + j = s.days.length → (f : Int) ≤ s.space → IntsAt X nv ((wrow s) j) → Calls Try.prog 70 #[(.agg #[.int .i64 s.space, .int .i64 s.start, .int .i64 s.elo, .int .i64 s.ehi, rv, .slice da s.days.length dcap]), .int .i64 d, .int .i64 f, nv] X fun e w' => e = .returned (.tuple #[.int .i64 (worstOf s d f (wrow s j)).1, .int .i64 (Sea.at0 (wrow s (j + 1)) f)]) ∧ Below X.heap.size X w') := by
    intro d j f nv X hX hd hf hx
    have h := refWorst1 _ nv s (wrow s j) d f X (hs.mono hX) ok (by omega) (by omega) ⟨by omega, hf⟩ hx (by rw [wrow_length]; omega) (fun k _ => by have := wrow_bd ok j (by omega) k; unfold Sea.never at this; omega)
    rw [Int.toNat_natCast, ← wrow_next ok hd hf] at h
    exact h
  have hfull : Hid (∀ j f : Nat, (f : Int) ≤ s.space → ((wrow s) j)[f]? = some (Sea.at0 ((wrow s) j) f)) := fun j f hf => at0_some (by rw [wrow_length]; omega)
  have hvl : Hid (∀ j, ((wrow s) j).length = (s.space + 1).toNat) := fun j => wrow_length s j
  obtain ⟨V, hV⟩ : ∃ V : Nat → List Int, wrow s = V := ⟨_, rfl⟩
  simp only [hV] at hlast hone hfull hvl ⊢
  clear hV hs

  go_enter Try.func65, Try.ntmps65
  go_wp2
  have hM0 := OwnMat.made (w.alloc (sBox s rv (.slice da s.days.length dcap))).heap.size (s.days.length + 1) (w.alloc (sBox s rv (.slice da s.days.length dcap))) (Nat.le_refl _)
  rw [← Sea.tbl_start s.days.length V] at hM0
  clear hmk
  generalize hW : w.alloc (sBox s rv (.slice da s.days.length dcap)) = W1 at *
  have hz : w.heap.size + 1 = W1.heap.size := by rw [← hW, World.size_alloc]
  obtain ⟨hsz, hBw, q0, q1, q2, q3, q4, q5⟩ := box_season hW
  clear hW
  have hB1 : Below W1.heap.size W1 (W1.alloc (.cells (Array.replicate (s.days.length + 1) (.slice none 0 0)) 28)) := below_al (Below.refl _ _) _
  generalize W1.alloc (.cells (Array.replicate (s.days.length + 1) (.slice none 0 0)) 28) = W at *
  simp only [hz]
  have hvn : (valAt (List.replicate (s.days.length + 1) (.slice none 0 0)) s.days.length) = .slice none 0 0 := by unfold valAt; simp
  generalize List.replicate (s.days.length + 1) (Value.slice none 0 0) = vs0 at hM0 hvn
  obtain ⟨x1, x2⟩ := row_len hM0 (i := s.days.length) (by rw [Sea.tbl_length]; omega)
  rw [hvn] at x1
  have m0 := kept_cell hB1 q0
  have m1 := kept_cell hB1 q1
  have m2 := kept_cell hB1 q2
  have m3 := kept_cell hB1 q3
  have m4 := kept_cell hB1 q4
  have m5 := kept_cell hB1 q5
  have hid : (0 : Int) ≤ (s.days.length : Int) ∧ (s.days.length : Int) < (s.days.length : Int) + 1 := by omega
  have hBd : Below W.heap.size W W.drew := (Below.refl _ _).drew
  go_region_held3 (fun w' => w'.cell? ⟨w.heap.size, 0, none⟩ = some (.int .i64 s.space) ∧ w'.cell? ⟨w.heap.size, 1, none⟩ = some (.int .i64 s.start) ∧ w'.cell? ⟨w.heap.size, 2, none⟩ = some (.int .i64 s.elo) ∧ w'.cell? ⟨w.heap.size, 3, none⟩ = some (.int .i64 s.ehi) ∧ w'.cell? ⟨w.heap.size, 4, none⟩ = some (rv) ∧ w'.cell? ⟨w.heap.size, 5, none⟩ = some (.slice da s.days.length dcap))
    (first | (go_keep; done) | exact ⟨kept_cell hBd m0, kept_cell hBd m1, kept_cell hBd m2, kept_cell hBd m3, kept_cell hBd m4, kept_cell hBd m5⟩ | exact ⟨hc0, hc1, hc2, hc3, hc4, hc5⟩ | exact ⟨(World.cell?_setCell_far _ _ _ _ (by show W1.heap.size ≠ w.heap.size; omega)).trans hc0, (World.cell?_setCell_far _ _ _ _ (by show W1.heap.size ≠ w.heap.size; omega)).trans hc1, (World.cell?_setCell_far _ _ _ _ (by show W1.heap.size ≠ w.heap.size; omega)).trans hc2, (World.cell?_setCell_far _ _ _ _ (by show W1.heap.size ≠ w.heap.size; omega)).trans hc3, (World.cell?_setCell_far _ _ _ _ (by show W1.heap.size ≠ w.heap.size; omega)).trans hc4, (World.cell?_setCell_far _ _ _ _ (by show W1.heap.size ≠ w.heap.size; omega)).trans hc5⟩)
    ((go_at_call 61; refine Calls.mono (hlast.out _ (hBw.trans ((below_tr hB1 hBd).mono (Nat.le_of_lt hsz)))) ?_; rintro e w1 ⟨v, rfl, hov, hbL⟩; obtain ⟨va, vn, vc, rfl⟩ := hov.slice; have hbW := below_tr hBd hbL; have hc0 := kept_cell hbW m0; have hc1 := kept_cell hbW m1; have hc2 := kept_cell hbW m2; have hc3 := kept_cell hbW m3; have hc4 := kept_cell hbW m4; have hc5 := kept_cell hbW m5; have hz1 := kept_cell hbW x1; have hz2 := (hbW.frozen (p := ⟨W1.heap.size, s.days.length, none⟩) (World.block_lt_of_cell? _ ⟨_, _, none⟩ x1)).trans x2))
  all_goals
    have hM1 := OwnMat.put (i := s.days.length) hM0 (by rw [Sea.tbl_length]; omega) (by rw [hvn]; exact grown_of_below hbW) (hov.from (by have := hB1.size; simp; omega)) (by rw [hvn]; cases hq : (Value.slice va vn vc).ownBlock with | none => exact .inl rfl | some q => exact .inr ⟨q, rfl, by have := (hov.lt q hq).1; simpa using this⟩)
    rw [tbl_first] at hM1
    have hB2 : Below W1.heap.size W1 (w1.setCell ⟨W1.heap.size, s.days.length, none⟩ (.slice va vn vc)) := below_s (below_tr hB1 hbW) (p := ⟨W1.heap.size, s.days.length, none⟩) (Nat.le_refl _) (.slice va vn vc)
    generalize w1.setCell ⟨W1.heap.size, s.days.length, none⟩ (.slice va vn vc) = w2 at *
    clear hM0 x1 x2 hov hbL hbW hc0 hc1 hc2 hc3 hc4 hc5 hz1 hz2 hBd hB1 m0 m1 m2 m3 m4 m5
    replace hM1 : Hid (∃ vs, OwnMat W1.heap.size W1.heap.size w2 vs (Sea.tbl s.days.length V (0 + 1) 0)) := ⟨_, hM1⟩
    have m0 := kept_cell hB2 q0
    have m5 := kept_cell hB2 q5
    go_wp2
    go_loopw [4] (fun i wr => ∃ j : Nat, j ≤ s.days.length ∧ i = .int .i64 ((s.days.length : Int) - 1 - j) ∧ Hid (∃ vs, OwnMat W1.heap.size W1.heap.size wr vs (Sea.tbl s.days.length V (j + 1) 0)) ∧ Below W1.heap.size W1 wr) (fun i _ => (intOf i + 1).toNat)
    case atStart => exact ⟨0, by omega, by simp, hM1, hB2⟩
    case round =>
      clear hM1 hB2 m0 m5
      obtain ⟨j, hj, rfl, hT, hB⟩ := hrel
      by_cases hjn : j < s.days.length
      · obtain ⟨d, hd⟩ := Int.eq_ofNat_of_zero_le (show (0 : Int) ≤ (s.days.length : Int) - 1 - j by omega)
        have hd2 : d + 1 + j = s.days.length := by omega
        rw [hd]
        replace hd := Lib.hid hd
        obtain ⟨U, rfl⟩ : ∃ U : World, U = wr := ⟨_, rfl⟩
        go_wp2
        go_loopw [5] (fun i wr => ∃ f : Nat, (f : Int) ≤ s.space + 1 ∧ i = .int .i64 f ∧ Hid (∃ vs, OwnMat W1.heap.size W1.heap.size wr vs (Sea.tbl s.days.length V (j + 1) f)) ∧ Below W1.heap.size W1 wr) (fun i _ => (s.space + 1 - intOf i).toNat)
        case atStart => exact ⟨0, by omega, rfl, hT, hB⟩
        case round =>
          clear hT hB
          obtain ⟨f, hf, rfl, hT, hB⟩ := hrel
          have m0 := kept_cell hB q0
          have m1 := kept_cell hB q1
          have m2 := kept_cell hB q2
          have m3 := kept_cell hB q3
          have m4 := kept_cell hB q4
          have m5 := kept_cell hB q5
          have hsw : w.heap.size < wr.heap.size := World.block_lt_of_cell? _ ⟨_, _, none⟩ m0
          by_cases hlt : (f : Int) ≤ s.space
          · obtain ⟨vs, hM⟩ := hT.out
            have hlen := Sea.tbl_length s.days.length V (j + 1) f
            obtain ⟨y1, y2⟩ := row_len hM (i := d + 1) (by rw [hlen]; omega)
            obtain ⟨z1, z2⟩ := row_len hM (i := d) (by rw [hlen]; omega)
            have hnx : IntsAt wr (valAt vs (d + 1)) (V j) := by
              have := (hM.own (d + 1) (by rw [hlen]; omega)).at
              rwa [Sea.tbl_at _ _ _ _ _ (by omega), if_pos (by omega), show s.days.length - (d + 1) = j by omega] at this
            obtain ⟨nv, hnv⟩ : ∃ nv, valAt vs (d + 1) = nv := ⟨_, rfl⟩
            rw [hnv] at y1 hnx
            replace hnv := Lib.hid hnv
            have hv : Hid (∀ g : Grow wr, Calls Try.prog 70 #[(.agg #[.int .i64 s.space, .int .i64 s.start, .int .i64 s.elo, .int .i64 s.ehi, rv, .slice da s.days.length dcap]), .int .i64 d, .int .i64 f, nv] g.x fun e w' => e = .returned (.tuple #[.int .i64 (worstOf s d f (V j)).1, .int .i64 (Sea.at0 (V (j + 1)) f)]) ∧ Below g.x.heap.size g.x w') := fun g => hone.out d j f nv g.x (hBw.trans ((hB.trans (g.h.mono hB.size)).mono (Nat.le_of_lt hsz))) hd2 hlt (hnx.mono g.h)
            obtain ⟨y, hy⟩ : ∃ y, Sea.at0 (V (j + 1)) f = y := ⟨_, rfl⟩
            rw [hy] at hv
            obtain ⟨other, hot⟩ : ∃ x, (worstOf s d f (V j)).1 = x := ⟨_, rfl⟩
            rw [hot] at hv
            clear hot
            replace hy := Lib.hid hy
            have hdi : (0 : Int) ≤ (d : Int) + 1 ∧ (d : Int) + 1 < (s.days.length : Int) + 1 := by omega
            have hdi2 : (0 : Int) ≤ (d : Int) ∧ (d : Int) < (s.days.length : Int) + 1 := by omega
            have hzl : W1.heap.size < wr.heap.size := World.block_lt_of_cell? _ ⟨_, _, none⟩ z1

            have hg := grow_cell wr
            have hgf := grow_frozen wr
            go_wp2
            refine wp_region_grow (by kernel_rfl) (by kernel_rfl) ?_
            repeat (go_big_quiet_step ((first | (go_at_call 70; exact Calls.grow (hv.out _)))))
            refine wpQuiet_nil ?_
            rintro _ ⟨g, rfl⟩
            have hMg := hM.mono g.h
            have hBg : Below W1.heap.size W1 g.x := hB.trans (g.h.mono hB.size)
            have hown := hMg.own d (by rw [hlen]; omega)
            have hne := hMg.ne d (by rw [hlen]; omega)
            have hL : (Sea.lstAt (Sea.tbl s.days.length V (j + 1) f) d).length ≤ 1000000 := by
              rw [Sea.tbl_at _ _ _ _ _ (by omega), if_neg (by omega), if_pos (by omega), List.length_take]; omega
            obtain ⟨v0, hv0⟩ : ∃ v0, valAt vs d = v0 := ⟨_, rfl⟩
            rw [hv0] at z1 hown hne
            have hsB : W1.heap.size ≤ g.x.heap.size := hBg.size
            have z3 : g.x.cell? ⟨W1.heap.size, d, none⟩ = some v0 := kept_cell g.h z1
            have z4 : g.x.frozen? ⟨W1.heap.size, d, none⟩ = false := (hgf g _ _ hzl).trans z2
            have hgs := g.size
            have hdN : Hid (d + 1 + j = s.days.length) := hd2
            clear hv hnx y1 y2 hone hlast
            go_wp2_with (at_builtin; refine wpList_app_int (by rfl) _ _ (by rfl) W1.heap.size g.x v0 _ y (by rfl) hown (by rfl) hL hsB ?_; intro v1 w1 ho1 hg1 hn1 hat1; obtain ⟨a1, n1, p1, rfl⟩ := ho1.slice; have z5 : w1.cell? ⟨W1.heap.size, d, none⟩ = some v0 := (hg1.cell_far _ (by show W1.heap.size < _; omega) (Ne.symm hne)).trans z3; have z6 : w1.frozen? ⟨W1.heap.size, d, none⟩ = false := (hg1.frozen_far _ (by show W1.heap.size < _; omega) (Ne.symm hne)).trans z4)
            have hmore := OwnMat.more (y := y) hMg (i := d) (by rw [hlen]; omega) (by rw [hv0]; exact hg1) ho1 (by rw [hv0]; exact hat1)
            have ht := Sea.tbl_more s.days.length V (j + 1) f y (by omega) (by rw [hfull.out _ _ hlt, hy.out])
            rw [show s.days.length - (j + 1) = d by omega] at ht
            rw [ht] at hmore
            have hBn : Below W1.heap.size W1 (w1.setCell ⟨W1.heap.size, d, none⟩ (.slice a1 n1 p1)) := below_s (hBg.grown hg1 hBg.size (fun k e => (hown.lt k e).1)) (p := ⟨W1.heap.size, d, none⟩) (Nat.le_refl _) (.slice a1 n1 p1)
            exact ⟨⟨f + 1, by omega, by go_num, ⟨_, hmore⟩, hBn⟩, by simp [intOf]; omega⟩
          · have hTn : Hid (∃ vs, OwnMat W1.heap.size W1.heap.size wr vs (Sea.tbl s.days.length V (j + 1 + 1) 0)) := by
              have := hT.out
              rwa [Sea.tbl_next _ _ (j + 1) f (by omega) (by rw [hvl.out]; omega)] at this
            go_wp2
            exact ⟨⟨j + 1, by omega, int_val (by have := hd.out; omega), hTn, hB⟩, by (try simp [intOf]) <;> (try omega)⟩
      · have hTn : ∃ vs, OwnMat W1.heap.size W1.heap.size wr vs (Sea.whole s.days.length V) := by
          have := hT.out
          rwa [show j = s.days.length by omega, Sea.tbl_whole] at this
        replace hTn := Lib.hid hTn
        go_wp2
        go_ret
        obtain ⟨vs, hM⟩ := hTn.out
        exact ⟨_, vs, _, rfl, hM.from (Nat.le_of_lt hsz), hBw.trans (hB.mono (Nat.le_of_lt hsz))⟩

set_option maxRecDepth 100000 in
set_option maxHeartbeats 4000000 in
theorem refProof (sv : Value) (nv0 : Value) (noms : List Int) (s : Sea.S) (w : World) (hs : SeasonAt w sv s) (ok : Sea.Ok s) (hn : IntsAt w nv0 noms) (hno : s.nomsB noms = true) :
    Calls Try.prog 22 #[sv, nv0] w fun e w' => ∃ b vs cap, e = .returned (.slice (some ⟨b, 0, none⟩) (s.days.length + 1) cap) ∧ OwnMat w.heap.size b w' vs (Sea.whole s.days.length (s.vals noms)) ∧ Below w.heap.size w w' := by
  have hs' := hs
  obtain ⟨rv, dv, rfl, -, ⟨da, dcap, rfl, hdm, -⟩⟩ := hs'
  have hsd := ok.ndays
  have hsp := ok.space
  unfold maxLen at hdm
  have hmk := run_make_lists (w.alloc (sBox s rv (.slice da s.days.length dcap))) (s.days.length + 1) (by omega)
  rw [Int.natCast_add, Int.natCast_one] at hmk
  have hlast : Hid (∀ X, Below w.heap.size w X → Calls Try.prog 61 #[(.agg #[.int .i64 s.space, .int .i64 s.start, .int .i64 s.elo, .int .i64 s.ehi, rv, .slice da s.days.length dcap])] X fun e w' => ∃ v, e = .returned v ∧ OwnInts X.heap.size w' v ((s.vals noms) 0) ∧ Below X.heap.size X w') := fun X hX => refLast _ s X (hs.mono hX) ok
  have hone : Hid (∀ (d j f : Nat) (nv : Value) X, Below w.heap.size w X → d + 1 + j = s.days.length → (f : Int) ≤ s.space → IntsAt X nv ((s.vals noms) j) → Calls Try.prog 62 #[(.agg #[.int .i64 s.space, .int .i64 s.start, .int .i64 s.elo, .int .i64 s.ehi, rv, .slice da s.days.length dcap]), .int .i64 d, .int .i64 f, .int .i64 (Sea.at0 noms d), nv] X fun e w' => e = .returned (.tuple #[.int .i64 (Sea.at0 (s.vals noms (j + 1)) f), .int .i64 (s.least d f (Sea.at0 noms d) (s.vals noms j)).2]) ∧ Below X.heap.size X w') := by
    intro d j f nv X hX hd hf hx
    have h := refLeast _ nv s (s.vals noms j) d f (Sea.at0 noms d) X (hs.mono hX) ok (by omega) (by omega) ⟨by omega, hf⟩ ((noms_bd ok hno).2 d (by omega)) hx (by rw [Sea.S.vals_length]; omega) (fun k _ => by have := vals_bd ok noms j (by omega) k; unfold Sea.never at this; omega)
    rw [Int.toNat_natCast, ← vals_first ok noms hd hf] at h
    exact h
  have hfull : Hid (∀ j f : Nat, (f : Int) ≤ s.space → ((s.vals noms) j)[f]? = some (Sea.at0 ((s.vals noms) j) f)) := fun j f hf => at0_some (by rw [Sea.S.vals_length]; omega)
  have hvl : Hid (∀ j, ((s.vals noms) j).length = (s.space + 1).toNat) := fun j => Sea.S.vals_length s noms j
  obtain ⟨V, hV⟩ : ∃ V : Nat → List Int, s.vals noms = V := ⟨_, rfl⟩
  simp only [hV] at hlast hone hfull hvl ⊢
  clear hV hs
  have hnl := (noms_bd ok hno).1
  obtain ⟨nb, noff, ncap, rfl, hnlt, hnm, hnk⟩ := int_cell hn (by omega)
  clear hn
  go_enter Try.func22, Try.ntmps22
  go_wp2
  have hM0 := OwnMat.made (w.alloc (sBox s rv (.slice da s.days.length dcap))).heap.size (s.days.length + 1) (w.alloc (sBox s rv (.slice da s.days.length dcap))) (Nat.le_refl _)
  rw [← Sea.tbl_start s.days.length V] at hM0
  clear hmk
  generalize hW : w.alloc (sBox s rv (.slice da s.days.length dcap)) = W1 at *
  have hz : w.heap.size + 1 = W1.heap.size := by rw [← hW, World.size_alloc]
  obtain ⟨hsz, hBw, q0, q1, q2, q3, q4, q5⟩ := box_season hW
  clear hW
  have hB1 : Below W1.heap.size W1 (W1.alloc (.cells (Array.replicate (s.days.length + 1) (.slice none 0 0)) 28)) := below_al (Below.refl _ _) _
  generalize W1.alloc (.cells (Array.replicate (s.days.length + 1) (.slice none 0 0)) 28) = W at *
  simp only [hz]
  have hvn : (valAt (List.replicate (s.days.length + 1) (.slice none 0 0)) s.days.length) = .slice none 0 0 := by unfold valAt; simp
  generalize List.replicate (s.days.length + 1) (Value.slice none 0 0) = vs0 at hM0 hvn
  obtain ⟨x1, x2⟩ := row_len hM0 (i := s.days.length) (by rw [Sea.tbl_length]; omega)
  rw [hvn] at x1
  have m0 := kept_cell hB1 q0
  have m1 := kept_cell hB1 q1
  have m2 := kept_cell hB1 q2
  have m3 := kept_cell hB1 q3
  have m4 := kept_cell hB1 q4
  have m5 := kept_cell hB1 q5
  have hid : (0 : Int) ≤ (s.days.length : Int) ∧ (s.days.length : Int) < (s.days.length : Int) + 1 := by omega
  have hBd : Below W.heap.size W W.drew := (Below.refl _ _).drew
  go_region_held3 (fun w' => w'.cell? ⟨w.heap.size, 0, none⟩ = some (.int .i64 s.space) ∧ w'.cell? ⟨w.heap.size, 1, none⟩ = some (.int .i64 s.start) ∧ w'.cell? ⟨w.heap.size, 2, none⟩ = some (.int .i64 s.elo) ∧ w'.cell? ⟨w.heap.size, 3, none⟩ = some (.int .i64 s.ehi) ∧ w'.cell? ⟨w.heap.size, 4, none⟩ = some (rv) ∧ w'.cell? ⟨w.heap.size, 5, none⟩ = some (.slice da s.days.length dcap))
    (first | (go_keep; done) | exact ⟨kept_cell hBd m0, kept_cell hBd m1, kept_cell hBd m2, kept_cell hBd m3, kept_cell hBd m4, kept_cell hBd m5⟩ | exact ⟨hc0, hc1, hc2, hc3, hc4, hc5⟩ | exact ⟨(World.cell?_setCell_far _ _ _ _ (by show W1.heap.size ≠ w.heap.size; omega)).trans hc0, (World.cell?_setCell_far _ _ _ _ (by show W1.heap.size ≠ w.heap.size; omega)).trans hc1, (World.cell?_setCell_far _ _ _ _ (by show W1.heap.size ≠ w.heap.size; omega)).trans hc2, (World.cell?_setCell_far _ _ _ _ (by show W1.heap.size ≠ w.heap.size; omega)).trans hc3, (World.cell?_setCell_far _ _ _ _ (by show W1.heap.size ≠ w.heap.size; omega)).trans hc4, (World.cell?_setCell_far _ _ _ _ (by show W1.heap.size ≠ w.heap.size; omega)).trans hc5⟩)
    ((go_at_call 61; refine Calls.mono (hlast.out _ (hBw.trans ((below_tr hB1 hBd).mono (Nat.le_of_lt hsz)))) ?_; rintro e w1 ⟨v, rfl, hov, hbL⟩; obtain ⟨va, vn, vc, rfl⟩ := hov.slice; have hbW := below_tr hBd hbL; have hc0 := kept_cell hbW m0; have hc1 := kept_cell hbW m1; have hc2 := kept_cell hbW m2; have hc3 := kept_cell hbW m3; have hc4 := kept_cell hbW m4; have hc5 := kept_cell hbW m5; have hz1 := kept_cell hbW x1; have hz2 := (hbW.frozen (p := ⟨W1.heap.size, s.days.length, none⟩) (World.block_lt_of_cell? _ ⟨_, _, none⟩ x1)).trans x2))
  all_goals
    have hM1 := OwnMat.put (i := s.days.length) hM0 (by rw [Sea.tbl_length]; omega) (by rw [hvn]; exact grown_of_below hbW) (hov.from (by have := hB1.size; simp; omega)) (by rw [hvn]; cases hq : (Value.slice va vn vc).ownBlock with | none => exact .inl rfl | some q => exact .inr ⟨q, rfl, by have := (hov.lt q hq).1; simpa using this⟩)
    rw [tbl_first] at hM1
    have hB2 : Below W1.heap.size W1 (w1.setCell ⟨W1.heap.size, s.days.length, none⟩ (.slice va vn vc)) := below_s (below_tr hB1 hbW) (p := ⟨W1.heap.size, s.days.length, none⟩) (Nat.le_refl _) (.slice va vn vc)
    generalize w1.setCell ⟨W1.heap.size, s.days.length, none⟩ (.slice va vn vc) = w2 at *
    clear hM0 x1 x2 hov hbL hbW hc0 hc1 hc2 hc3 hc4 hc5 hz1 hz2 hBd hB1 m0 m1 m2 m3 m4 m5
    replace hM1 : Hid (∃ vs, OwnMat W1.heap.size W1.heap.size w2 vs (Sea.tbl s.days.length V (0 + 1) 0)) := ⟨_, hM1⟩
    have m0 := kept_cell hB2 q0
    have m5 := kept_cell hB2 q5
    go_wp2
    go_loopw [6] (fun i wr => ∃ j : Nat, j ≤ s.days.length ∧ i = .int .i64 ((s.days.length : Int) - 1 - j) ∧ Hid (∃ vs, OwnMat W1.heap.size W1.heap.size wr vs (Sea.tbl s.days.length V (j + 1) 0)) ∧ Below W1.heap.size W1 wr) (fun i _ => (intOf i + 1).toNat)
    case atStart => exact ⟨0, by omega, by simp, hM1, hB2⟩
    case round =>
      clear hM1 hB2 m0 m5
      obtain ⟨j, hj, rfl, hT, hB⟩ := hrel
      by_cases hjn : j < s.days.length
      · obtain ⟨d, hd⟩ := Int.eq_ofNat_of_zero_le (show (0 : Int) ≤ (s.days.length : Int) - 1 - j by omega)
        have hd2 : d + 1 + j = s.days.length := by omega
        rw [hd]
        replace hd := Lib.hid hd
        obtain ⟨U, rfl⟩ : ∃ U : World, U = wr := ⟨_, rfl⟩
        go_wp2
        go_loopw [7] (fun i wr => ∃ f : Nat, (f : Int) ≤ s.space + 1 ∧ i = .int .i64 f ∧ Hid (∃ vs, OwnMat W1.heap.size W1.heap.size wr vs (Sea.tbl s.days.length V (j + 1) f)) ∧ Below W1.heap.size W1 wr) (fun i _ => (s.space + 1 - intOf i).toNat)
        case atStart => exact ⟨0, by omega, rfl, hT, hB⟩
        case round =>
          clear hT hB
          obtain ⟨f, hf, rfl, hT, hB⟩ := hrel
          have m0 := kept_cell hB q0
          have m1 := kept_cell hB q1
          have m2 := kept_cell hB q2
          have m3 := kept_cell hB q3
          have m4 := kept_cell hB q4
          have m5 := kept_cell hB q5
          have hsw : w.heap.size < wr.heap.size := World.block_lt_of_cell? _ ⟨_, _, none⟩ m0
          by_cases hlt : (f : Int) ≤ s.space
          · obtain ⟨vs, hM⟩ := hT.out
            have hlen := Sea.tbl_length s.days.length V (j + 1) f
            obtain ⟨y1, y2⟩ := row_len hM (i := d + 1) (by rw [hlen]; omega)
            obtain ⟨z1, z2⟩ := row_len hM (i := d) (by rw [hlen]; omega)
            have hnx : IntsAt wr (valAt vs (d + 1)) (V j) := by
              have := (hM.own (d + 1) (by rw [hlen]; omega)).at
              rwa [Sea.tbl_at _ _ _ _ _ (by omega), if_pos (by omega), show s.days.length - (d + 1) = j by omega] at this
            obtain ⟨nv, hnv⟩ : ∃ nv, valAt vs (d + 1) = nv := ⟨_, rfl⟩
            rw [hnv] at y1 hnx
            replace hnv := Lib.hid hnv
            have hv : Hid (∀ g : Grow wr, Calls Try.prog 62 #[(.agg #[.int .i64 s.space, .int .i64 s.start, .int .i64 s.elo, .int .i64 s.ehi, rv, .slice da s.days.length dcap]), .int .i64 d, .int .i64 f, .int .i64 (Sea.at0 noms d), nv] g.x fun e w' => e = .returned (.tuple #[.int .i64 (Sea.at0 (V (j + 1)) f), .int .i64 (s.least d f (Sea.at0 noms d) (V j)).2]) ∧ Below g.x.heap.size g.x w') := fun g => hone.out d j f nv g.x (hBw.trans ((hB.trans (g.h.mono hB.size)).mono (Nat.le_of_lt hsz))) hd2 hlt (hnx.mono g.h)
            obtain ⟨y, hy⟩ : ∃ y, Sea.at0 (V (j + 1)) f = y := ⟨_, rfl⟩
            rw [hy] at hv
            obtain ⟨other, hot⟩ : ∃ x, (s.least d f (Sea.at0 noms d) (V j)).2 = x := ⟨_, rfl⟩
            rw [hot] at hv
            clear hot
            replace hy := Lib.hid hy
            have hdi : (0 : Int) ≤ (d : Int) + 1 ∧ (d : Int) + 1 < (s.days.length : Int) + 1 := by omega
            have hdi2 : (0 : Int) ≤ (d : Int) ∧ (d : Int) < (s.days.length : Int) + 1 := by omega
            have hzl : W1.heap.size < wr.heap.size := World.block_lt_of_cell? _ ⟨_, _, none⟩ z1
            have e0 := kept_cell hB (kept_cell hBw (hnk d (by omega)))
            have hdj : (0 : Int) ≤ (d : Int) ∧ (d : Int) < noms.length := by omega
            have hnbl : nb < wr.heap.size := World.block_lt_of_cell? _ ⟨_, _, none⟩ e0
            have hg := grow_cell wr
            have hgf := grow_frozen wr
            go_wp2
            refine wp_region_grow (by kernel_rfl) (by kernel_rfl) ?_
            repeat (go_big_quiet_step ((first | (go_at_call 62; exact Calls.grow (hv.out _)))))
            refine wpQuiet_nil ?_
            rintro _ ⟨g, rfl⟩
            have hMg := hM.mono g.h
            have hBg : Below W1.heap.size W1 g.x := hB.trans (g.h.mono hB.size)
            have hown := hMg.own d (by rw [hlen]; omega)
            have hne := hMg.ne d (by rw [hlen]; omega)
            have hL : (Sea.lstAt (Sea.tbl s.days.length V (j + 1) f) d).length ≤ 1000000 := by
              rw [Sea.tbl_at _ _ _ _ _ (by omega), if_neg (by omega), if_pos (by omega), List.length_take]; omega
            obtain ⟨v0, hv0⟩ : ∃ v0, valAt vs d = v0 := ⟨_, rfl⟩
            rw [hv0] at z1 hown hne
            have hsB : W1.heap.size ≤ g.x.heap.size := hBg.size
            have z3 : g.x.cell? ⟨W1.heap.size, d, none⟩ = some v0 := kept_cell g.h z1
            have z4 : g.x.frozen? ⟨W1.heap.size, d, none⟩ = false := (hgf g _ _ hzl).trans z2
            have hgs := g.size
            have hdN : Hid (d + 1 + j = s.days.length) := hd2
            clear hv hnx y1 y2 hone hlast
            go_wp2_with (at_builtin; refine wpList_app_int (by rfl) _ _ (by rfl) W1.heap.size g.x v0 _ y (by rfl) hown (by rfl) hL hsB ?_; intro v1 w1 ho1 hg1 hn1 hat1; obtain ⟨a1, n1, p1, rfl⟩ := ho1.slice; have z5 : w1.cell? ⟨W1.heap.size, d, none⟩ = some v0 := (hg1.cell_far _ (by show W1.heap.size < _; omega) (Ne.symm hne)).trans z3; have z6 : w1.frozen? ⟨W1.heap.size, d, none⟩ = false := (hg1.frozen_far _ (by show W1.heap.size < _; omega) (Ne.symm hne)).trans z4)
            have hmore := OwnMat.more (y := y) hMg (i := d) (by rw [hlen]; omega) (by rw [hv0]; exact hg1) ho1 (by rw [hv0]; exact hat1)
            have ht := Sea.tbl_more s.days.length V (j + 1) f y (by omega) (by rw [hfull.out _ _ hlt, hy.out])
            rw [show s.days.length - (j + 1) = d by omega] at ht
            rw [ht] at hmore
            have hBn : Below W1.heap.size W1 (w1.setCell ⟨W1.heap.size, d, none⟩ (.slice a1 n1 p1)) := below_s (hBg.grown hg1 hBg.size (fun k e => (hown.lt k e).1)) (p := ⟨W1.heap.size, d, none⟩) (Nat.le_refl _) (.slice a1 n1 p1)
            exact ⟨⟨f + 1, by omega, by go_num, ⟨_, hmore⟩, hBn⟩, by simp [intOf]; omega⟩
          · have hTn : Hid (∃ vs, OwnMat W1.heap.size W1.heap.size wr vs (Sea.tbl s.days.length V (j + 1 + 1) 0)) := by
              have := hT.out
              rwa [Sea.tbl_next _ _ (j + 1) f (by omega) (by rw [hvl.out]; omega)] at this
            go_wp2
            exact ⟨⟨j + 1, by omega, int_val (by have := hd.out; omega), hTn, hB⟩, by (try simp [intOf]) <;> (try omega)⟩
      · have hTn : ∃ vs, OwnMat W1.heap.size W1.heap.size wr vs (Sea.whole s.days.length V) := by
          have := hT.out
          rwa [show j = s.days.length by omega, Sea.tbl_whole] at this
        replace hTn := Lib.hid hTn
        go_wp2
        go_ret
        obtain ⟨vs, hM⟩ := hTn.out
        exact ⟨_, vs, _, rfl, hM.from (Nat.le_of_lt hsz), hBw.trans (hB.mono (Nat.le_of_lt hsz))⟩

end Go.Proofs.Ytacajmpggjgaiaa
