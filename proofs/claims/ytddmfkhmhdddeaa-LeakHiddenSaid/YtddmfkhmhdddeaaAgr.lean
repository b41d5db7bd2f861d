/- Walks: whether a guess agrees; the bounds of a guess (the program's exported functions). -/
import Derived.Test.YtddmfkhmhdddeaaSen
set_option linter.unusedVariables false
set_option linter.unusedSimpArgs false
namespace Lk
theorem err_zero {b : Bk} {f : Bool} (h : b.err f = 0) : b.longB = false ∧ b.bookB = true ∧ f = true := by
  unfold Bk.err at h
  split at h
  · cases h
  · rename_i h1
    split at h
    · rename_i h2
      simp only [Bool.and_eq_true] at h2
      exact ⟨by simpa using h1, h2.1, h2.2⟩
    · cases h
theorem err_cases (b : Bk) (f : Bool) : b.err f = 0 ∨ b.err f = 2 ∨ b.err f = 3 := by
  unfold Bk.err; split
  · exact .inr (.inr rfl)
  · split
    · exact .inl rfl
    · exact .inr (.inl rfl)
end Lk
namespace Go.Proofs.Ytddmfkhmhdddeaa
open Go.RowKit Go.Sd Lk

theorem gss_one (w : World) (g : Gs) : GssAt (w.alloc (.cells #[.int .i64 g.zone, .int .i64 g.size, .int .i64 g.since] 28)) (.slice (some ⟨w.heap.size, 0, none⟩) 1 1) [g] := by
  refine ⟨_, 1, rfl, (show (1 : Nat) ≤ maxLen by decide), fun _ => ⟨_, 0, rfl, by simp, fun k i u hk hu => ?_⟩⟩
  obtain rfl : k = 0 := by simp at hk; exact hk
  obtain ⟨c0, c1, c2⟩ := rc3 (World.alloc_heap_new w (.cells #[.int .i64 g.zone, .int .i64 g.size, .int .i64 g.since] 28))
  match i, hu with
  | 0, hu => cases hu; exact c0
  | 1, hu => cases hu; exact c1
  | 2, hu => cases hu; exact c2
  | i + 3, hu => simp at hu

theorem bounds_len {b : Bk} {g : Gs} : (b.bounds g).length = b.flows.length := by simp [Bk.bounds]
theorem seenYes (fv wv rv : Value) (b : Bk) (g : Gs) (w : World) (hb : BookAt w fv wv rv b) (ok : Ok b) (hg : b.gsB g = true) (h : b.agreeB g = true) :
    Calls Try.prog 52 #[bkV fv wv rv, gsV g] w fun e w' => ∃ a cap, e = .returned (.tuple #[.slice a b.flows.length cap, .bool true]) ∧ SpRowsAt w' (.slice a b.flows.length cap) (b.bounds g) ∧ Below w.heap.size w w' :=
  (progSeen fv wv rv b g w hb ok hg).mono (by
    rintro e w' ⟨hB, ⟨_, v, rfl, hr⟩ | ⟨h2, _⟩⟩
    · obtain ⟨a, cap, rfl, -, -⟩ := hr.form
      rw [bounds_len] at hr ⊢
      exact ⟨a, cap, rfl, hr, hB⟩
    · rw [h] at h2; cases h2)
theorem seenNo (fv wv rv : Value) (b : Bk) (g : Gs) (w : World) (hb : BookAt w fv wv rv b) (ok : Ok b) (hg : b.gsB g = true) (h : b.agreeB g = false) :
    Calls Try.prog 52 #[bkV fv wv rv, gsV g] w fun e w' => e = .returned (.tuple #[.slice none 0 0, .bool false]) ∧ Below w.heap.size w w' :=
  (progSeen fv wv rv b g w hb ok hg).mono (by
    rintro e w' ⟨hB, ⟨h2, _⟩ | ⟨_, rfl⟩⟩
    · rw [h] at h2; cases h2
    · exact ⟨rfl, hB⟩)

def AgreePost (b : Bk) (g : Gs) (w : World) (e : Ending) (w' : World) : Prop := e = .returned (.tuple #[.bool (decide (b.err (b.gsB g) = 0) && b.agreeB g), .int .i64 (b.err (b.gsB g))]) ∧ Below w.heap.size w w'
def BoundsPost (b : Bk) (g : Gs) (w : World) (e : Ending) (w' : World) : Prop := Below w.heap.size w w' ∧
  ((b.err (b.gsB g) ≠ 0 ∧ e = .returned (.tuple #[.slice none 0 0, .int .i64 (b.err (b.gsB g))])) ∨
   (b.err (b.gsB g) = 0 ∧ b.agreeB g = false ∧ e = .returned (.tuple #[.slice none 0 0, .int .i64 5])) ∨
   (b.err (b.gsB g) = 0 ∧ b.agreeB g = true ∧ ∃ v, e = .returned (.tuple #[v, .int .i64 0]) ∧ SpRowsAt w' v (b.bounds g)))

set_option maxRecDepth 100000 in
set_option maxHeartbeats 4000000 in
theorem progAgree (fv wv rv : Value) (b : Bk) (g : Gs) (w : World) (hb : BookAt w fv wv rv b) :
    Calls Try.prog 39 #[bkV fv wv rv, gsV g] w (AgreePost b g w) := by
  obtain ⟨W, hW⟩ : ∃ W, (w.alloc (bkA fv wv rv)).alloc (gsO g) = W := ⟨_, rfl⟩
  obtain ⟨e0, e1, s1, B1⟩ := two_new hW
  obtain ⟨q0, q1, q2⟩ := rc3 e0
  obtain ⟨p0, p1, p2⟩ := rc3 e1
  have z0 := (Array.getElem?_eq_some_iff.1 e0).1
  have z1 := (Array.getElem?_eq_some_iff.1 e1).1
  have hbW := Lib.hid (hb.mono B1)
  have hkA : Hid (∀ lv X, Below W.heap.size W X → GssAt X lv [g] → Calls Try.prog 51 #[bkV fv wv rv, lv] X fun e w' => e = .returned (.int .i64 (b.err (b.gsB g))) ∧ Below X.heap.size X w') := Lib.hid fun lv X hX hl => by
    have := progAsked fv wv rv lv b [g] X (hbW.out.mono hX) hl
    simpa using this
  obtain ⟨V, hV⟩ : ∃ V, W.alloc (.cells #[.int .i64 g.zone, .int .i64 g.size, .int .i64 g.since] 28) = V := ⟨_, rfl⟩
  have hgV : GssAt V (.slice (some ⟨W.heap.size, 0, none⟩) 1 1) [g] := by rw [← hV]; exact gss_one W g
  have BV : Below W.heap.size W V := by rw [← hV]; exact (Below.refl _ _).alloc (Nat.le_refl _) _
  have kA := Lib.hid (hkA.out _ _ BV hgV)
  have hwV := Lib.hid (below_tr B1 BV)
  obtain ⟨fa, fc, rfl, hfm, -⟩ := hb.first.form
  obtain ⟨wa, wc, rfl, hwm, -⟩ := hb.flows.form
  obtain ⟨ra, rc, rfl, hrm, -⟩ := hb.reads.form
  clear hkA hb e0 e1 s1 hgV
  unfold AgreePost
  have hez := Lib.hid (err_zero (b := b) (f := b.gsB g))
  generalize b.err (b.gsB g) = er at *
  by_cases h : er = 0
  · have ok := Lib.hid (ok_of (hez.out h).2.1 (hez.out h).1)
    have hg := Lib.hid (hez.out h).2.2
    clear hez
    subst h
    cases ha : b.agreeB g
    · have kS := Lib.hid (fun X (hX : Below W.heap.size W X) => seenNo _ _ _ b g X (hbW.out.mono hX) ok.out hg.out ha)
      go_enter Try.func39, Try.ntmps39
      go_wp2_with (first | (go_at_call 51; (with_reducible refine Calls.mono kA.out ?_); rintro e w1 ⟨rfl, hb1⟩; have hb2 := below_tr BV hb1; have hb3 := hwV.out.trans (hb1.mono hwV.out.size); replace q0 := kept_cell hb2 q0; replace q1 := kept_cell hb2 q1; replace q2 := kept_cell hb2 q2; replace p0 := kept_cell hb2 p0; replace p1 := kept_cell hb2 p1; replace p2 := kept_cell hb2 p2) | (go_at_call 52; (with_reducible refine Calls.mono (kS.out _ hb2) ?_); rintro e w2 ⟨rfl, hb4⟩))
      refine bodyPost_ret (v := .tuple #[_, _]) (by simp [results, Try.results39, go_sem]; exact ⟨rfl, rfl⟩) rfl ?_
      exact ⟨by simp, hb3.trans (hb4.mono hb3.size)⟩
    · have kS := Lib.hid (fun X (hX : Below W.heap.size W X) => seenYes _ _ _ b g X (hbW.out.mono hX) ok.out hg.out ha)
      go_enter Try.func39, Try.ntmps39
      go_wp2_with (first | (go_at_call 51; (with_reducible refine Calls.mono kA.out ?_); rintro e w1 ⟨rfl, hb1⟩; have hb2 := below_tr BV hb1; have hb3 := hwV.out.trans (hb1.mono hwV.out.size); replace q0 := kept_cell hb2 q0; replace q1 := kept_cell hb2 q1; replace q2 := kept_cell hb2 q2; replace p0 := kept_cell hb2 p0; replace p1 := kept_cell hb2 p1; replace p2 := kept_cell hb2 p2) | (go_at_call 52; (with_reducible refine Calls.mono (kS.out _ hb2) ?_); rintro e w2 ⟨av, cv, rfl, hrow, hb4⟩))
      refine bodyPost_ret (v := .tuple #[_, _]) (by simp [results, Try.results39, go_sem]; exact ⟨rfl, rfl⟩) rfl ?_
      exact ⟨by simp, hb3.trans (hb4.mono hb3.size)⟩
  · have hd : decide (er = 0) = false := by simpa using h
    go_enter Try.func39, Try.ntmps39
    go_wp2_with (go_at_call 51; (with_reducible refine Calls.mono kA.out ?_); rintro e w1 ⟨rfl, hb1⟩; have hb2 := below_tr BV hb1; have hb3 := hwV.out.trans (hb1.mono hwV.out.size); replace q0 := kept_cell hb2 q0; replace q1 := kept_cell hb2 q1; replace q2 := kept_cell hb2 q2; replace p0 := kept_cell hb2 p0; replace p1 := kept_cell hb2 p1; replace p2 := kept_cell hb2 p2)
    refine bodyPost_ret (v := .tuple #[_, _]) (by simp [results, Try.results39, go_sem]; exact ⟨rfl, rfl⟩) rfl ?_
    exact ⟨by simp [hd], hb3⟩

set_option maxRecDepth 100000 in
set_option maxHeartbeats 4000000 in
theorem progBounds (fv wv rv : Value) (b : Bk) (g : Gs) (w : World) (hb : BookAt w fv wv rv b) :
    Calls Try.prog 19 #[bkV fv wv rv, gsV g] w (BoundsPost b g w) := by
  obtain ⟨W, hW⟩ : ∃ W, (w.alloc (bkA fv wv rv)).alloc (gsO g) = W := ⟨_, rfl⟩
  obtain ⟨e0, e1, s1, B1⟩ := two_new hW
  obtain ⟨q0, q1, q2⟩ := rc3 e0
  obtain ⟨p0, p1, p2⟩ := rc3 e1
  have z0 := (Array.getElem?_eq_some_iff.1 e0).1
  have z1 := (Array.getElem?_eq_some_iff.1 e1).1
  have hbW := Lib.hid (hb.mono B1)
  have hkA : Hid (∀ lv X, Below W.heap.size W X → GssAt X lv [g] → Calls Try.prog 51 #[bkV fv wv rv, lv] X fun e w' => e = .returned (.int .i64 (b.err (b.gsB g))) ∧ Below X.heap.size X w') := Lib.hid fun lv X hX hl => by
    have := progAsked fv wv rv lv b [g] X (hbW.out.mono hX) hl
    simpa using this
  obtain ⟨V, hV⟩ : ∃ V, W.alloc (.cells #[.int .i64 g.zone, .int .i64 g.size, .int .i64 g.since] 28) = V := ⟨_, rfl⟩
  have hgV : GssAt V (.slice (some ⟨W.heap.size, 0, none⟩) 1 1) [g] := by rw [← hV]; exact gss_one W g
  have BV : Below W.heap.size W V := by rw [← hV]; exact (Below.refl _ _).alloc (Nat.le_refl _) _
  have kA := Lib.hid (hkA.out _ _ BV hgV)
  have hwV := Lib.hid (below_tr B1 BV)
  obtain ⟨fa, fc, rfl, hfm, -⟩ := hb.first.form
  obtain ⟨wa, wc, rfl, hwm, -⟩ := hb.flows.form
  obtain ⟨ra, rc, rfl, hrm, -⟩ := hb.reads.form
  clear hkA hb e0 e1 s1 hgV
  unfold BoundsPost
  have hez := Lib.hid (err_zero (b := b) (f := b.gsB g))
  generalize b.err (b.gsB g) = er at *
  by_cases h : er = 0
  · have ok := Lib.hid (ok_of (hez.out h).2.1 (hez.out h).1)
    have hg := Lib.hid (hez.out h).2.2
    clear hez
    subst h
    cases ha : b.agreeB g
    · have kS := Lib.hid (fun X (hX : Below W.heap.size W X) => seenNo _ _ _ b g X (hbW.out.mono hX) ok.out hg.out ha)
      go_enter Try.func19, Try.ntmps19
      go_wp2_with (first | (go_at_call 51; (with_reducible refine Calls.mono kA.out ?_); rintro e w1 ⟨rfl, hb1⟩; have hb2 := below_tr BV hb1; have hb3 := hwV.out.trans (hb1.mono hwV.out.size); replace q0 := kept_cell hb2 q0; replace q1 := kept_cell hb2 q1; replace q2 := kept_cell hb2 q2; replace p0 := kept_cell hb2 p0; replace p1 := kept_cell hb2 p1; replace p2 := kept_cell hb2 p2) | (go_at_call 52; (with_reducible refine Calls.mono (kS.out _ hb2) ?_); rintro e w2 ⟨rfl, hb4⟩))
      refine bodyPost_ret (v := .tuple #[_, _]) (by simp [results, Try.results19, go_sem]; exact ⟨rfl, rfl⟩) rfl ?_
      exact ⟨hb3.trans (hb4.mono hb3.size), .inr (.inl ⟨trivial, trivial, rfl⟩)⟩
    · have kS := Lib.hid (fun X (hX : Below W.heap.size W X) => seenYes _ _ _ b g X (hbW.out.mono hX) ok.out hg.out ha)
      go_enter Try.func19, Try.ntmps19
      go_wp2_with (first | (go_at_call 51; (with_reducible refine Calls.mono kA.out ?_); rintro e w1 ⟨rfl, hb1⟩; have hb2 := below_tr BV hb1; have hb3 := hwV.out.trans (hb1.mono hwV.out.size); replace q0 := kept_cell hb2 q0; replace q1 := kept_cell hb2 q1; replace q2 := kept_cell hb2 q2; replace p0 := kept_cell hb2 p0; replace p1 := kept_cell hb2 p1; replace p2 := kept_cell hb2 p2) | (go_at_call 52; (with_reducible refine Calls.mono (kS.out _ hb2) ?_); rintro e w2 ⟨av, cv, rfl, hrow, hb4⟩))
      refine bodyPost_ret (v := .tuple #[_, _]) (by simp [results, Try.results19, go_sem]; exact ⟨rfl, rfl⟩) rfl ?_
      exact ⟨hb3.trans (hb4.mono hb3.size), .inr (.inr ⟨trivial, trivial, _, rfl, hrow⟩)⟩
  · have hd : decide (er = 0) = false := by simpa using h
    go_enter Try.func19, Try.ntmps19
    go_wp2_with (go_at_call 51; (with_reducible refine Calls.mono kA.out ?_); rintro e w1 ⟨rfl, hb1⟩; have hb2 := below_tr BV hb1; have hb3 := hwV.out.trans (hb1.mono hwV.out.size); replace q0 := kept_cell hb2 q0; replace q1 := kept_cell hb2 q1; replace q2 := kept_cell hb2 q2; replace p0 := kept_cell hb2 p0; replace p1 := kept_cell hb2 p1; replace p2 := kept_cell hb2 p2)
    refine bodyPost_ret (v := .tuple #[_, _]) (by simp [results, Try.results19, go_sem]; exact ⟨rfl, rfl⟩) rfl ?_
    exact ⟨hb3, .inl ⟨h, rfl⟩⟩
end Go.Proofs.Ytddmfkhmhdddeaa
