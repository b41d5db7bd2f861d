/- Walks: the chapter's examples (law.B, law.W, law.known). -/
import Derived.Test.YtddmfkhmhdddeaaRSm
set_option linter.unusedVariables false
set_option linter.unusedSimpArgs false
namespace Lk
def bkX : Bk := ⟨[⟨1000, 1010⟩, ⟨500, 500⟩], [[⟨100, 102⟩, ⟨0, 0⟩], [⟨-50, -49⟩, ⟨0, 0⟩], [⟨0, 0⟩, ⟨0, 0⟩]], [⟨0, 0, ⟨1100, 1105⟩⟩, ⟨2, 0, ⟨1040, 1042⟩⟩, ⟨2, 1, ⟨500, 500⟩⟩]⟩
def wX : List Dy := [⟨1, true, 2⟩, ⟨1, false, 0⟩, ⟨1, true, 2⟩, ⟨1, false, 0⟩, ⟨1, true, 3⟩]
theorem x_err : bkX.err true = 0 := by decide
theorem x_gs : bkX.gsB ⟨0, 5, 1⟩ = true ∧ bkX.gsB ⟨0, 4, 1⟩ = true ∧ bkX.gsB ⟨0, 8, 2⟩ = true := by decide
theorem x_agree : bkX.agreeB ⟨0, 5, 1⟩ = true ∧ bkX.agreeB noGs = false := by decide
theorem x_bounds : bkX.bounds ⟨0, 5, 1⟩ = [[⟨1100, 1102⟩, ⟨500, 500⟩], [⟨1045, 1047⟩, ⟨500, 500⟩], [⟨1040, 1042⟩, ⟨500, 500⟩]] := by decide
theorem x_sus : bkX.susL = [⟨0, 0, ⟨4, 7⟩⟩, ⟨0, 1, ⟨4, 8⟩⟩, ⟨0, 2, ⟨8, 16⟩⟩] := by decide
theorem x_blame : bkX.blame = [1] := by decide
theorem x_found : fdR wX 5 1 = (4, 0) := by decide
theorem x_tell : bkX.tlR ⟨0, 4, 1⟩ ⟨0, 8, 2⟩ 1 = (1, 0, 0) := by decide
end Lk
namespace Go.Proofs.Ytddmfkhmhdddeaa
open Go.RowKit Go.Sd Lk
theorem els_blk {α : Type} {m : Nat} {enc : α → List Value} (hm : ∀ x, (enc x).length = m) (d : α) {w : World} {b : Nat} {E : TypeId} {cs : Array Value} (xs : List α) (h : w.heap[b]? = some (.cells cs E)) (hc : cs = (xs.flatMap enc).toArray) (hx : xs.length ≤ maxLen) (cap : Nat) :
    ElsAt m enc d w (.slice (some ⟨b, 0, none⟩) xs.length cap) xs := by
  refine ⟨_, cap, rfl, hx, fun _ => ⟨b, 0, rfl, (Array.getElem?_eq_some_iff.1 h).1, fun k i u hk hu => ?_⟩⟩
  have hi : i < m := by
    have := (List.getElem?_eq_some_iff.1 hu).1
    rwa [hm] at this
  rw [(row_cells h).2.1, hc, Nat.zero_add]
  have := fl_get hm d xs k i hk hi
  simp only [List.getElem?_toArray]
  rw [this, hu]
def capOk (v : Value) : Prop := ∀ a n cap, v = .slice a n cap → n ≤ cap
set_option maxRecDepth 100000 in
set_option maxHeartbeats 4000000 in
theorem lawB (w : World) : Calls Try.prog 49 #[] w fun e w' => (∃ fv wv rv, e = .returned (bkV fv wv rv) ∧ BookAt w' fv wv rv bkX ∧ capOk rv) ∧ Below w.heap.size w w' := by
  obtain ⟨W1, hW1⟩ : ∃ W, (((w.alloc (bkA (.slice (some ⟨w.heap.size + 1, 0, none⟩) 2 2) (.slice (some ⟨w.heap.size + 1 + 1 + 1 + 1 + 1, 0, none⟩) 3 3) (.slice (some ⟨w.heap.size + 1 + 1 + 1 + 1 + 1 + 1, 0, none⟩) 3 3))).alloc (.cells #[.int .i64 1000, .int .i64 1010, .int .i64 500, .int .i64 500] 55)).alloc (.cells #[.int .i64 100, .int .i64 102, .int .i64 0, .int .i64 0] 55)).alloc
    (.cells #[.int .i64 (-50), .int .i64 (-49), .int .i64 0, .int .i64 0] 55) = W := ⟨_, rfl⟩
  obtain ⟨e0, e1, e2, e3, s1, B1⟩ := four_new hW1
  obtain ⟨W, hW⟩ : ∃ W, ((W1.alloc (.cells #[.int .i64 0, .int .i64 0, .int .i64 0, .int .i64 0] 55)).alloc (.cells #[.slice (some ⟨w.heap.size + 1 + 1, 0, none⟩) 2 2, .slice (some ⟨w.heap.size + 1 + 1 + 1, 0, none⟩) 2 2, .slice (some ⟨w.heap.size + 1 + 1 + 1 + 1, 0, none⟩) 2 2] 22)).alloc
    (.cells #[.int .i64 0, .int .i64 0, .int .i64 1100, .int .i64 1105, .int .i64 2, .int .i64 0, .int .i64 1040, .int .i64 1042, .int .i64 2, .int .i64 1, .int .i64 500, .int .i64 500] 57) = W := ⟨_, rfl⟩
  obtain ⟨e4, e5, e6, s2, B2⟩ := three_new hW
  rw [s1] at e4 e5 e6
  replace hW1 := Lib.hid hW1
  replace hW := Lib.hid hW
  have c0 := rc3 (kept_block B2 e0)
  have hbook : Hid (BookAt W (.slice (some ⟨w.heap.size + 1, 0, none⟩) 2 2) (.slice (some ⟨w.heap.size + 1 + 1 + 1 + 1 + 1, 0, none⟩) 3 3) (.slice (some ⟨w.heap.size + 1 + 1 + 1 + 1 + 1 + 1, 0, none⟩) 3 3) bkX) := Lib.hid (by
    refine ⟨els_blk spEnc_len _ bkX.first (kept_block B2 e1) rfl (by decide) 2, ⟨_, 3, rfl, by decide, fun _ => ⟨_, 0, rfl, (Array.getElem?_eq_some_iff.1 e5).1, fun k hk => ?_⟩⟩, els_blk rdEnc_len _ bkX.reads e6 rfl (by decide) 3⟩
    have hr := (row_cells e5).2.1
    match k, hk with
    | 0, _ => exact ⟨_, hr 0, els_blk spEnc_len _ [⟨100, 102⟩, ⟨0, 0⟩] (kept_block B2 e2) rfl (by decide) 2⟩
    | 1, _ => exact ⟨_, hr 1, els_blk spEnc_len _ [⟨-50, -49⟩, ⟨0, 0⟩] (kept_block B2 e3) rfl (by decide) 2⟩
    | 2, _ => exact ⟨_, hr 2, els_blk spEnc_len _ [⟨0, 0⟩, ⟨0, 0⟩] e4 rfl (by decide) 2⟩
    | k + 3, hk => exact absurd hk (by simp [bkX]))
  have hB := Lib.hid (below_tr B1 B2)
  clear e0 e1 e2 e3 e4 e5 e6 s1 s2 B1 B2
  go_enter Try.func49, Try.ntmps49
  go_wp2
  rw [hW1.out, hW.out]
  obtain ⟨c0, c1, c2⟩ := c0
  refine bodyPost_ret (v := bkV (.slice (some ⟨w.heap.size + 1, 0, none⟩) 2 2) (.slice (some ⟨w.heap.size + 1 + 1 + 1 + 1 + 1, 0, none⟩) 3 3) (.slice (some ⟨w.heap.size + 1 + 1 + 1 + 1 + 1 + 1, 0, none⟩) 3 3)) (by simp [results, Try.results49, go_sem, c0, c1, c2]) rfl ?_
  exact ⟨⟨_, _, _, rfl, hbook.out, fun a n cap h => by cases h; exact Nat.le_refl _⟩, hB.out⟩
theorem dyEnc_len (x : Dy) : (dyEnc x).length = 3 := rfl
set_option maxHeartbeats 4000000 in
theorem lawW (w : World) : Calls Try.prog 50 #[] w fun e w' => (∃ v, e = .returned v ∧ DysAt w' v wX) ∧ Below w.heap.size w w' := by
  have hd : Hid (DysAt (w.alloc (.cells #[.int .i64 1, .bool true, .int .i64 2, .int .i64 1, .bool false, .int .i64 0, .int .i64 1, .bool true, .int .i64 2, .int .i64 1, .bool false, .int .i64 0, .int .i64 1, .bool true, .int .i64 3] 79)) (.slice (some ⟨w.heap.size, 0, none⟩) 5 5) wX) :=
    Lib.hid (els_blk dyEnc_len _ wX (World.alloc_heap_new w _) rfl (by decide) 5)
  go_enter Try.func50, Try.ntmps50
  go_wp2
  go_ret
  exact ⟨⟨_, rfl, hd.out⟩, (Below.refl _ _).alloc (Nat.le_refl _) _⟩

abbrev LX : List (List Sp) := [[⟨1100, 1102⟩, ⟨500, 500⟩], [⟨1045, 1047⟩, ⟨500, 500⟩], [⟨1040, 1042⟩, ⟨500, 500⟩]]
abbrev SX : List Su := [⟨0, 0, ⟨4, 7⟩⟩, ⟨0, 1, ⟨4, 8⟩⟩, ⟨0, 2, ⟨8, 16⟩⟩]
theorem xBounds (fv wv rv : Value) (X : World) (hb : BookAt X fv wv rv bkX) : Calls Try.prog 19 #[bkV fv wv rv, gsV ⟨0, 5, 1⟩] X fun e w' => (∃ v, e = .returned (.tuple #[v, .int .i64 0]) ∧ SpRowsAt w' v LX) ∧ Below X.heap.size X w' :=
  (progBounds fv wv rv bkX ⟨0, 5, 1⟩ X hb).mono (by
    have h0 : bkX.err (bkX.gsB ⟨0, 5, 1⟩) = 0 := by rw [x_gs.1]; exact x_err
    rintro e w' ⟨hB, ⟨h, _⟩ | ⟨_, h, _⟩ | ⟨_, _, v, rfl, hl⟩⟩
    · exact absurd h0 h
    · rw [x_agree.1] at h; cases h
    · rw [x_bounds] at hl; exact ⟨⟨v, rfl, hl⟩, hB⟩)
theorem xSus (fv wv rv : Value) (X : World) (hb : BookAt X fv wv rv bkX) : Calls Try.prog 33 #[bkV fv wv rv] X fun e w' => (∃ v, e = .returned (.tuple #[v, .int .i64 0]) ∧ SusAt w' v SX) ∧ Below X.heap.size X w' :=
  (progSuspects fv wv rv bkX X hb).mono (by
    rintro e w' ⟨hB, ⟨h, _⟩ | ⟨_, a, cap, rfl, hl⟩⟩
    · exact absurd x_err h
    · rw [x_sus] at hl; exact ⟨⟨_, by rw [x_sus], hl⟩, hB⟩)
theorem x_cert : bkX.certB = true := by unfold Bk.certB; rw [x_agree.2, x_sus]; rfl
theorem xCert (fv wv rv : Value) (X : World) (hb : BookAt X fv wv rv bkX) : Calls Try.prog 34 #[bkV fv wv rv] X fun e w' => e = .returned (.tuple #[.bool true, .int .i64 0]) ∧ Below X.heap.size X w' :=
  (progCertain fv wv rv bkX X hb).mono (by rintro e w' ⟨rfl, hB⟩; exact ⟨by rw [x_err, x_cert]; rfl, hB⟩)
theorem xBlame (fv wv rv : Value) (X : World) (hb : BookAt X fv wv rv bkX) (hc : capOk rv) : Calls Try.prog 25 #[bkV fv wv rv] X fun e w' => (∃ v, e = .returned (.tuple #[v, .int .i64 0]) ∧ IntsAt w' v [1]) ∧ Below X.heap.size X w' :=
  (progBlame fv wv rv bkX X hb hc).mono (by
    rintro e w' ⟨hB, ⟨h, _⟩ | ⟨_, a, cap, rfl, hl⟩⟩
    · exact absurd x_err h
    · rw [x_blame] at hl; exact ⟨⟨_, by rw [x_blame], hl⟩, hB⟩)
theorem xFound (v : Value) (X : World) (hb : DysAt X v wX) : Calls Try.prog 28 #[v, .int .i64 5, .int .i64 1] X fun e w' => e = .returned (.tuple #[.int .i64 4, .int .i64 0]) ∧ Below X.heap.size X w' :=
  (progFound v wX 5 1 X hb).mono (by rintro e w' ⟨rfl, hB⟩; exact ⟨by rw [x_found], hB⟩)
theorem xTell (fv wv rv : Value) (X : World) (hb : BookAt X fv wv rv bkX) : Calls Try.prog 31 #[bkV fv wv rv, gsV ⟨0, 4, 1⟩, gsV ⟨0, 8, 2⟩, .int .i64 1] X fun e w' => e = .returned (.tuple #[.int .i64 1, .int .i64 0, .int .i64 0]) ∧ Below X.heap.size X w' :=
  (progTell fv wv rv bkX _ _ 1 X hb).mono (by rintro e w' ⟨rfl, hB⟩; exact ⟨by rw [x_tell], hB⟩)
theorem rows_lit (Y Z : World) (h : (((Y.alloc (.cells #[.int .i64 1100, .int .i64 1102, .int .i64 500, .int .i64 500] 55)).alloc (.cells #[.int .i64 1045, .int .i64 1047, .int .i64 500, .int .i64 500] 55)).alloc (.cells #[.int .i64 1040, .int .i64 1042, .int .i64 500, .int .i64 500] 55)).alloc
    (.cells #[.slice (some ⟨Y.heap.size, 0, none⟩) 2 2, .slice (some ⟨Y.heap.size + 1, 0, none⟩) 2 2, .slice (some ⟨Y.heap.size + 1 + 1, 0, none⟩) 2 2] 22) = Z) : SpRowsAt Z (.slice (some ⟨Y.heap.size + 1 + 1 + 1, 0, none⟩) 3 3) LX ∧ Below Y.heap.size Y Z := by
  obtain ⟨e0, e1, e2, e3, s1, B1⟩ := four_new h
  refine ⟨⟨_, 3, rfl, by decide, fun _ => ⟨_, 0, rfl, (Array.getElem?_eq_some_iff.1 e3).1, fun k hk => ?_⟩⟩, B1⟩
  have hr := (row_cells e3).2.1
  match k, hk with
  | 0, _ => exact ⟨_, hr 0, els_blk spEnc_len _ [⟨1100, 1102⟩, ⟨500, 500⟩] e0 rfl (by decide) 2⟩
  | 1, _ => exact ⟨_, hr 1, els_blk spEnc_len _ [⟨1045, 1047⟩, ⟨500, 500⟩] e1 rfl (by decide) 2⟩
  | 2, _ => exact ⟨_, hr 2, els_blk spEnc_len _ [⟨1040, 1042⟩, ⟨500, 500⟩] e2 rfl (by decide) 2⟩
  | k + 3, hk => exact absurd hk (by simp)

set_option maxRecDepth 100000 in
set_option maxHeartbeats 8000000 in
theorem progKnown (w : World) : Calls Try.prog 18 #[] w fun e w' => e = .returned (.bool true) ∧ Below w.heap.size w w' := by
  have HB : Below w.heap.size w w := Below.refl _ _
  go_enter Try.func18, Try.ntmps18
  go_wp2_with (first
    | (go_at_call 49; (with_reducible refine Calls.mono (lawB _) ?_); rintro e y ⟨⟨fv, wv, rv, rfl, hbk, hcap⟩, hB⟩; replace HB := below_tr HB hB; (try replace hl := RowsAt.mono hl hB); (try replace hs := ElsAt.mono hs hB); (try replace hi := ElsAt.mono hi hB); clear hB)
    | (go_at_call 19; (with_reducible refine Calls.mono (xBounds _ _ _ _ hbk) ?_); rintro e y ⟨⟨l, rfl, hl⟩, hB⟩; obtain ⟨la, lc, rfl, -, -⟩ := hl.form; replace HB := below_tr HB hB; clear hB hbk hcap)
    | (go_at_call 33; (with_reducible refine Calls.mono (xSus _ _ _ _ hbk) ?_); rintro e y ⟨⟨s, rfl, hs⟩, hB⟩; obtain ⟨sa, sc, rfl, -, -⟩ := hs.form; replace HB := below_tr HB hB; replace hl := RowsAt.mono hl hB; clear hB hbk hcap)
    | (go_at_call 34; (with_reducible refine Calls.mono (xCert _ _ _ _ hbk) ?_); rintro e y ⟨rfl, hB⟩; replace HB := below_tr HB hB; replace hl := RowsAt.mono hl hB; replace hs := ElsAt.mono hs hB; clear hB hbk hcap)
    | (go_at_call 25; (with_reducible refine Calls.mono (xBlame _ _ _ _ hbk hcap) ?_); rintro e y ⟨⟨i, rfl, hi⟩, hB⟩; obtain ⟨ia, ic, rfl, -, -⟩ := hi.form; replace HB := below_tr HB hB; replace hl := RowsAt.mono hl hB; replace hs := ElsAt.mono hs hB; clear hB hbk hcap)
    | (go_at_call 50; (with_reducible refine Calls.mono (lawW _) ?_); rintro e y ⟨⟨d, rfl, hd⟩, hB⟩; obtain ⟨da, dc, rfl, -, -⟩ := hd.form; replace HB := below_tr HB hB; replace hl := RowsAt.mono hl hB; replace hs := ElsAt.mono hs hB; replace hi := ElsAt.mono hi hB; clear hB)
    | (go_at_call 28; (with_reducible refine Calls.mono (xFound _ _ hd) ?_); rintro e y ⟨rfl, hB⟩; replace HB := below_tr HB hB; replace hl := RowsAt.mono hl hB; replace hs := ElsAt.mono hs hB; replace hi := ElsAt.mono hi hB; clear hB hd)
    | (go_at_call 31; (with_reducible refine Calls.mono (xTell _ _ _ _ hbk) ?_); rintro e y ⟨rfl, hB⟩; replace HB := below_tr HB hB; replace hl := RowsAt.mono hl hB; replace hs := ElsAt.mono hs hB; replace hi := ElsAt.mono hi hB; clear hB hbk hcap))
  have B1 : Below y.heap.size y (y.alloc (spO ⟨500, 500⟩)) := (Below.refl _ _).alloc (Nat.le_refl _) _
  have hZ := rows_lit (y.alloc (spO ⟨500, 500⟩)) _ rfl
  simp only [World.size_alloc] at hZ
  have BZ := below_tr B1 (by simpa only [World.size_alloc] using hZ.2)
  refine Calls.mono (refSameDays _ _ LX _ (RowsAt.mono hl BZ) hZ.1) ?_
  rintro e y2 ⟨rfl, hB⟩
  have hB2 := below_tr BZ hB
  replace HB := below_tr HB hB2
  replace hs := ElsAt.mono hs hB2
  replace hi := ElsAt.mono hi hB2
  clear hB hB2 BZ hZ B1 hl
  go_wp2_with (first
    | (go_at_call 45; refine Calls.mono (refSameSus _ _ SX _ (ElsAt.mono hs ((Below.refl _ _).alloc (Nat.le_refl _) _)) (els_blk suEnc_len _ SX (World.alloc_heap_new _ _) rfl (by decide) 3)) ?_; rintro e y3 ⟨rfl, hB⟩; have hB2 := below_tr ((Below.refl y2.heap.size y2).alloc (Nat.le_refl _) _) hB; replace HB := below_tr HB hB2; replace hi := ElsAt.mono hi hB2; clear hB hB2 hs)
    | (go_at_call 26; refine Calls.mono (refSame _ _ [1] _ (ElsAt.mono hi ((Below.refl _ _).alloc (Nat.le_refl _) _)) (els_blk intEnc_len _ [1] (World.alloc_heap_new _ _) rfl (by decide) 1)) ?_; rintro e y4 ⟨rfl, hB⟩; have hB2 := below_tr ((Below.refl y3.heap.size y3).alloc (Nat.le_refl _) _) hB; replace HB := below_tr HB hB2; clear hB hB2 hi))
  go_ret
  exact ⟨rfl, HB⟩
end Go.Proofs.Ytddmfkhmhdddeaa
