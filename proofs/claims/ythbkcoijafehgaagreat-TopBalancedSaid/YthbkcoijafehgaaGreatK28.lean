/- Laws and walks: LAgr, LCam, LAll, LSiz, LPwl, LMor, LBnl, GHs. -/
import Derived.BigRegion
import Derived.Test.YthbkcoijafehgaaGreatK03
import Derived.Test.YthbkcoijafehgaaGreatK04
import Derived.Test.YthbkcoijafehgaaGreatK14
import Derived.Test.YthbkcoijafehgaaGreatK27
set_option linter.unusedVariables false
set_option linter.unusedSimpArgs false
namespace Lk
theorem err_zero {b : Bk} {f : Bool} (h : b.err f = 0) : b.longB = false ∧ b.bookB = true ∧ f = true := by
  unfold Bk.err at h
  split at h
  · cases h
  · rename_i h1
    split at h
    · rename_i h2
      simp only [Bool.and_eq_true] at h2
      exact ⟨by simpa using h1, h2.1, h2.2⟩
    · cases h
end Lk
namespace Go.Proofs.YthbkcoijafehgaaGreat.L
open Go.RowKit Go.Sd Lk
theorem gss_one (w : World) (g : Gs) : GssAt (w.alloc (.cells #[.int .i64 g.zone, .int .i64 g.size, .int .i64 g.since] 58)) (.slice (some ⟨w.heap.size, 0, none⟩) 1 1) [g] := by
  refine ⟨_, 1, rfl, (show (1 : Nat) ≤ maxLen by decide), fun _ => ⟨_, 0, rfl, by simp, fun k i u hk hu => ?_⟩⟩
  obtain rfl : k = 0 := by simp at hk; exact hk
  obtain ⟨c0, c1, c2⟩ := rc3 (World.alloc_heap_new w (.cells #[.int .i64 g.zone, .int .i64 g.size, .int .i64 g.since] 58))
  match i, hu with
  | 0, hu => cases hu; exact c0
  | 1, hu => cases hu; exact c1
  | 2, hu => cases hu; exact c2
  | i + 3, hu => simp at hu
theorem bounds_len {b : Bk} {g : Gs} : (b.bounds g).length = b.flows.length := by simp [Bk.bounds]
theorem seenYes (fv wv rv : Value) (b : Bk) (g : Gs) (w : World) (hb : BookAt w fv wv rv b) (ok : Ok b) (hg : b.gsB g = true) (h : b.agreeB g = true) :
    Calls Tryz.prog 37 #[bkV fv wv rv, gsV g] w fun e w' => ∃ a cap, e = .returned (.tuple #[.slice a b.flows.length cap, .bool true]) ∧ SpRowsAt w' (.slice a b.flows.length cap) (b.bounds g) ∧ Below w.heap.size w w' :=
  (progSeen fv wv rv b g w hb ok hg).mono (by
    rintro e w' ⟨hB, ⟨_, v, rfl, hr⟩ | ⟨h2, _⟩⟩
    · obtain ⟨a, cap, rfl, -, -⟩ := hr.form
      rw [bounds_len] at hr ⊢
      exact ⟨a, cap, rfl, hr, hB⟩
    · rw [h] at h2; cases h2)
theorem seenNo (fv wv rv : Value) (b : Bk) (g : Gs) (w : World) (hb : BookAt w fv wv rv b) (ok : Ok b) (hg : b.gsB g = true) (h : b.agreeB g = false) :
    Calls Tryz.prog 37 #[bkV fv wv rv, gsV g] w fun e w' => e = .returned (.tuple #[.slice none 0 0, .bool false]) ∧ Below w.heap.size w w' :=
  (progSeen fv wv rv b g w hb ok hg).mono (by
    rintro e w' ⟨hB, ⟨h2, _⟩ | ⟨_, rfl⟩⟩
    · rw [h] at h2; cases h2
    · exact ⟨rfl, hB⟩)
def AgreePost (b : Bk) (g : Gs) (w : World) (e : Ending) (w' : World) : Prop := e = .returned (.tuple #[.bool (decide (b.err (b.gsB g) = 0) && b.agreeB g), .int .i64 (b.err (b.gsB g))]) ∧ Below w.heap.size w w'
def BoundsPost (b : Bk) (g : Gs) (w : World) (e : Ending) (w' : World) : Prop := Below w.heap.size w w' ∧
  ((b.err (b.gsB g) ≠ 0 ∧ e = .returned (.tuple #[.slice none 0 0, .int .i64 (b.err (b.gsB g))])) ∨
   (b.err (b.gsB g) = 0 ∧ b.agreeB g = false ∧ e = .returned (.tuple #[.slice none 0 0, .int .i64 5])) ∨
   (b.err (b.gsB g) = 0 ∧ b.agreeB g = true ∧ ∃ v, e = .returned (.tuple #[v, .int .i64 0]) ∧ SpRowsAt w' v (b.bounds g)))
set_option maxRecDepth 100000 in
set_option maxHeartbeats 4000000 in
theorem progAgree (fv wv rv : Value) (b : Bk) (g : Gs) (w : World) (hb : BookAt w fv wv rv b) :
    Calls Tryz.prog 12 #[bkV fv wv rv, gsV g] w (AgreePost b g w) := by
  obtain ⟨W, hW⟩ : ∃ W, (w.alloc (bkA fv wv rv)).alloc (gsO g) = W := ⟨_, rfl⟩
  obtain ⟨e0, e1, s1, B1⟩ := two_new hW
  obtain ⟨q0, q1, q2⟩ := rc3 e0
  obtain ⟨p0, p1, p2⟩ := rc3 e1
  have z0 := (Array.getElem?_eq_some_iff.1 e0).1
  have z1 := (Array.getElem?_eq_some_iff.1 e1).1
  have hbW := Lib.hid (hb.mono B1)
  have hkA : Hid (∀ lv X, Below W.heap.size W X → GssAt X lv [g] → Calls Tryz.prog 36 #[bkV fv wv rv, lv] X fun e w' => e = .returned (.int .i64 (b.err (b.gsB g))) ∧ Below X.heap.size X w') := Lib.hid fun lv X hX hl => by
    have := progAsked fv wv rv lv b [g] X (hbW.out.mono hX) hl
    simpa using this
  obtain ⟨V, hV⟩ : ∃ V, W.alloc (.cells #[.int .i64 g.zone, .int .i64 g.size, .int .i64 g.since] 58) = V := ⟨_, rfl⟩
  have hgV : GssAt V (.slice (some ⟨W.heap.size, 0, none⟩) 1 1) [g] := by rw [← hV]; exact gss_one W g
  have BV : Below W.heap.size W V := by rw [← hV]; exact (Below.refl _ _).alloc (Nat.le_refl _) _
  have kA := Lib.hid (hkA.out _ _ BV hgV)
  have hwV := Lib.hid (below_tr B1 BV)
  obtain ⟨fa, fc, rfl, hfm, -⟩ := hb.first.form
  obtain ⟨wa, wc, rfl, hwm, -⟩ := hb.flows.form
  obtain ⟨ra, rc, rfl, hrm, -⟩ := hb.reads.form
  clear hkA hb e0 e1 s1 hgV
  unfold AgreePost
  have hez := Lib.hid (err_zero (b := b) (f := b.gsB g))
  generalize b.err (b.gsB g) = er at *
  by_cases h : er = 0
  · have ok := Lib.hid (ok_of (hez.out h).2.1 (hez.out h).1)
    have hg := Lib.hid (hez.out h).2.2
    clear hez
    subst h
    cases ha : b.agreeB g
    · have kS := Lib.hid (fun X (hX : Below W.heap.size W X) => seenNo _ _ _ b g X (hbW.out.mono hX) ok.out hg.out ha)
      go_enter Tryz.func12, Tryz.ntmps12
      go_wp2_with (first | (go_at_call 36; (with_reducible refine Calls.mono kA.out ?_); rintro e w1 ⟨rfl, hb1⟩; have hb2 := below_tr BV hb1; have hb3 := hwV.out.trans (hb1.mono hwV.out.size); replace q0 := kept_cell hb2 q0; replace q1 := kept_cell hb2 q1; replace q2 := kept_cell hb2 q2; replace p0 := kept_cell hb2 p0; replace p1 := kept_cell hb2 p1; replace p2 := kept_cell hb2 p2) | (go_at_call 37; (with_reducible refine Calls.mono (kS.out _ hb2) ?_); rintro e w2 ⟨rfl, hb4⟩))
      refine bodyPost_ret (v := .tuple #[_, _]) (by simp [results, Tryz.results12, go_sem]; exact ⟨rfl, rfl⟩) rfl ?_
      exact ⟨by simp, hb3.trans (hb4.mono hb3.size)⟩
    · have kS := Lib.hid (fun X (hX : Below W.heap.size W X) => seenYes _ _ _ b g X (hbW.out.mono hX) ok.out hg.out ha)
      go_enter Tryz.func12, Tryz.ntmps12
      go_wp2_with (first | (go_at_call 36; (with_reducible refine Calls.mono kA.out ?_); rintro e w1 ⟨rfl, hb1⟩; have hb2 := below_tr BV hb1; have hb3 := hwV.out.trans (hb1.mono hwV.out.size); replace q0 := kept_cell hb2 q0; replace q1 := kept_cell hb2 q1; replace q2 := kept_cell hb2 q2; replace p0 := kept_cell hb2 p0; replace p1 := kept_cell hb2 p1; replace p2 := kept_cell hb2 p2) | (go_at_call 37; (with_reducible refine Calls.mono (kS.out _ hb2) ?_); rintro e w2 ⟨av, cv, rfl, hrow, hb4⟩))
      refine bodyPost_ret (v := .tuple #[_, _]) (by simp [results, Tryz.results12, go_sem]; exact ⟨rfl, rfl⟩) rfl ?_
      exact ⟨by simp, hb3.trans (hb4.mono hb3.size)⟩
  · have hd : decide (er = 0) = false := by simpa using h
    go_enter Tryz.func12, Tryz.ntmps12
    go_wp2_with (go_at_call 36; (with_reducible refine Calls.mono kA.out ?_); rintro e w1 ⟨rfl, hb1⟩; have hb2 := below_tr BV hb1; have hb3 := hwV.out.trans (hb1.mono hwV.out.size); replace q0 := kept_cell hb2 q0; replace q1 := kept_cell hb2 q1; replace q2 := kept_cell hb2 q2; replace p0 := kept_cell hb2 p0; replace p1 := kept_cell hb2 p1; replace p2 := kept_cell hb2 p2)
    refine bodyPost_ret (v := .tuple #[_, _]) (by simp [results, Tryz.results12, go_sem]; exact ⟨rfl, rfl⟩) rfl ?_
    exact ⟨by simp [hd], hb3⟩
set_option maxRecDepth 100000 in
set_option maxHeartbeats 4000000 in
theorem progBounds (fv wv rv : Value) (b : Bk) (g : Gs) (w : World) (hb : BookAt w fv wv rv b) :
    Calls Tryz.prog 14 #[bkV fv wv rv, gsV g] w (BoundsPost b g w) := by
  obtain ⟨W, hW⟩ : ∃ W, (w.alloc (bkA fv wv rv)).alloc (gsO g) = W := ⟨_, rfl⟩
  obtain ⟨e0, e1, s1, B1⟩ := two_new hW
  obtain ⟨q0, q1, q2⟩ := rc3 e0
  obtain ⟨p0, p1, p2⟩ := rc3 e1
  have z0 := (Array.getElem?_eq_some_iff.1 e0).1
  have z1 := (Array.getElem?_eq_some_iff.1 e1).1
  have hbW := Lib.hid (hb.mono B1)
  have hkA : Hid (∀ lv X, Below W.heap.size W X → GssAt X lv [g] → Calls Tryz.prog 36 #[bkV fv wv rv, lv] X fun e w' => e = .returned (.int .i64 (b.err (b.gsB g))) ∧ Below X.heap.size X w') := Lib.hid fun lv X hX hl => by
    have := progAsked fv wv rv lv b [g] X (hbW.out.mono hX) hl
    simpa using this
  obtain ⟨V, hV⟩ : ∃ V, W.alloc (.cells #[.int .i64 g.zone, .int .i64 g.size, .int .i64 g.since] 58) = V := ⟨_, rfl⟩
  have hgV : GssAt V (.slice (some ⟨W.heap.size, 0, none⟩) 1 1) [g] := by rw [← hV]; exact gss_one W g
  have BV : Below W.heap.size W V := by rw [← hV]; exact (Below.refl _ _).alloc (Nat.le_refl _) _
  have kA := Lib.hid (hkA.out _ _ BV hgV)
  have hwV := Lib.hid (below_tr B1 BV)
  obtain ⟨fa, fc, rfl, hfm, -⟩ := hb.first.form
  obtain ⟨wa, wc, rfl, hwm, -⟩ := hb.flows.form
  obtain ⟨ra, rc, rfl, hrm, -⟩ := hb.reads.form
  clear hkA hb e0 e1 s1 hgV
  unfold BoundsPost
  have hez := Lib.hid (err_zero (b := b) (f := b.gsB g))
  generalize b.err (b.gsB g) = er at *
  by_cases h : er = 0
  · have ok := Lib.hid (ok_of (hez.out h).2.1 (hez.out h).1)
    have hg := Lib.hid (hez.out h).2.2
    clear hez
    subst h
    cases ha : b.agreeB g
    · have kS := Lib.hid (fun X (hX : Below W.heap.size W X) => seenNo _ _ _ b g X (hbW.out.mono hX) ok.out hg.out ha)
      go_enter Tryz.func14, Tryz.ntmps14
      go_wp2_with (first | (go_at_call 36; (with_reducible refine Calls.mono kA.out ?_); rintro e w1 ⟨rfl, hb1⟩; have hb2 := below_tr BV hb1; have hb3 := hwV.out.trans (hb1.mono hwV.out.size); replace q0 := kept_cell hb2 q0; replace q1 := kept_cell hb2 q1; replace q2 := kept_cell hb2 q2; replace p0 := kept_cell hb2 p0; replace p1 := kept_cell hb2 p1; replace p2 := kept_cell hb2 p2) | (go_at_call 37; (with_reducible refine Calls.mono (kS.out _ hb2) ?_); rintro e w2 ⟨rfl, hb4⟩))
      refine bodyPost_ret (v := .tuple #[_, _]) (by simp [results, Tryz.results14, go_sem]; exact ⟨rfl, rfl⟩) rfl ?_
      exact ⟨hb3.trans (hb4.mono hb3.size), .inr (.inl ⟨trivial, trivial, rfl⟩)⟩
    · have kS := Lib.hid (fun X (hX : Below W.heap.size W X) => seenYes _ _ _ b g X (hbW.out.mono hX) ok.out hg.out ha)
      go_enter Tryz.func14, Tryz.ntmps14
      go_wp2_with (first | (go_at_call 36; (with_reducible refine Calls.mono kA.out ?_); rintro e w1 ⟨rfl, hb1⟩; have hb2 := below_tr BV hb1; have hb3 := hwV.out.trans (hb1.mono hwV.out.size); replace q0 := kept_cell hb2 q0; replace q1 := kept_cell hb2 q1; replace q2 := kept_cell hb2 q2; replace p0 := kept_cell hb2 p0; replace p1 := kept_cell hb2 p1; replace p2 := kept_cell hb2 p2) | (go_at_call 37; (with_reducible refine Calls.mono (kS.out _ hb2) ?_); rintro e w2 ⟨av, cv, rfl, hrow, hb4⟩))
      refine bodyPost_ret (v := .tuple #[_, _]) (by simp [results, Tryz.results14, go_sem]; exact ⟨rfl, rfl⟩) rfl ?_
      exact ⟨hb3.trans (hb4.mono hb3.size), .inr (.inr ⟨trivial, trivial, _, rfl, hrow⟩)⟩
  · have hd : decide (er = 0) = false := by simpa using h
    go_enter Tryz.func14, Tryz.ntmps14
    go_wp2_with (go_at_call 36; (with_reducible refine Calls.mono kA.out ?_); rintro e w1 ⟨rfl, hb1⟩; have hb2 := below_tr BV hb1; have hb3 := hwV.out.trans (hb1.mono hwV.out.size); replace q0 := kept_cell hb2 q0; replace q1 := kept_cell hb2 q1; replace q2 := kept_cell hb2 q2; replace p0 := kept_cell hb2 p0; replace p1 := kept_cell hb2 p1; replace p2 := kept_cell hb2 p2)
    refine bodyPost_ret (v := .tuple #[_, _]) (by simp [results, Tryz.results14, go_sem]; exact ⟨rfl, rfl⟩) rfl ?_
    exact ⟨hb3, .inl ⟨h, rfl⟩⟩
end Go.Proofs.YthbkcoijafehgaaGreat.L
set_option linter.unusedVariables false
set_option linter.unusedSimpArgs false
namespace Lk
/-- What came to a zone on j days from day s on. -/
def Bk.camN (b : Bk) (z s : Nat) : Nat → Sp
  | 0 => ⟨0, 0⟩
  | j + 1 => addSp (Bk.camN b z s j) (b.flowAt (s + j) z)
/-- What came to a zone behind a time, up to another one. -/
def Bk.came (b : Bk) (z : Nat) (a c : Int) : Sp := b.camN z (a + 1).toNat (c - a).toNat
end Lk
namespace Go.Proofs.YthbkcoijafehgaaGreat.L
open Go.RowKit Go.Sd Lk
theorem three_new {w W : World} {a b c : Obj} (h : ((w.alloc a).alloc b).alloc c = W) :
    W.heap[w.heap.size]? = some a ∧ W.heap[w.heap.size + 1]? = some b ∧ W.heap[w.heap.size + 1 + 1]? = some c ∧ W.heap.size = w.heap.size + 3 ∧ Below w.heap.size w W := by
  obtain ⟨V, hV⟩ : ∃ V, (w.alloc a).alloc b = V := ⟨_, rfl⟩
  rw [hV] at h
  obtain ⟨e0, e1, s1, B1⟩ := two_new hV
  obtain ⟨e2, B2, s2⟩ := boxed h
  rw [s1] at e2
  exact ⟨kept_block B2 e0, kept_block B2 e1, e2, by omega, below_tr B1 B2⟩
end Go.Proofs.YthbkcoijafehgaaGreat.L
set_option linter.unusedVariables false
set_option linter.unusedSimpArgs false
namespace Lk
/-- What is known of a zone's content at a time: the end of a day, or -1. -/
structure Kn where
  day : Int
  v : Sp
  deriving DecidableEq
def Bk.allK (b : Bk) (z : Nat) : List Kn := ⟨-1, spAt b.first z⟩ :: (b.reads.filter fun r : Rd => decide (r.zone = (z : Int))).map fun r => ⟨r.day, r.v⟩
theorem mem_allK {b : Bk} (ok : Ok b) {z : Nat} (hz : z < b.first.length) {x : Kn} (h : x ∈ b.allK z) : -1 ≤ x.day ∧ x.day < b.flows.length ∧ -1000000000 ≤ x.v.lo ∧ x.v.lo ≤ x.v.hi ∧ x.v.hi ≤ 1000000000 := by
  unfold Bk.allK at h
  rcases List.mem_cons.1 h with rfl | h
  · have := ok.first z hz; have := ok.nd; simp only; omega
  · obtain ⟨r, hr, rfl⟩ := List.mem_map.1 h
    obtain ⟨i, hi, rfl⟩ := List.getElem_of_mem (List.mem_filter.1 hr).1
    have := ok.reads i hi
    have e : rdAt b.reads i = b.reads[i] := by simp [rdAt, hi]
    rw [e] at this; simp only; omega
end Lk
namespace Go.Proofs.YthbkcoijafehgaaGreat.L
open Go.RowKit Go.Sd Lk
end Go.Proofs.YthbkcoijafehgaaGreat.L
set_option linter.unusedVariables false
set_option linter.unusedSimpArgs false
namespace Lk
end Lk
namespace Go.Proofs.YthbkcoijafehgaaGreat.L
open Go.RowKit Go.Sd Lk
attribute [local go_sem] Oper.semAt_some
theorem agr_none {b : Bk} : b.gsB noGs = true := by simp [Bk.gsB]
/-- The blocks that sizes lays at its head. -/
structure SzSt (w : World) (m : Nat) (fv wv rv xv : Value) (z : Nat) (since : Int) (o : Sp) (W : World) : Prop where
  bk : W.heap[w.heap.size]? = some (bkO fv wv rv)
  zo : W.heap[w.heap.size + 1]? = some (.cells #[.int .i64 z] 3)
  si : W.heap[w.heap.size + 1 + 1]? = some (.cells #[.int .i64 since] 3)
  re : W.heap[w.heap.size + 1 + 1 + 1]? = some (spO ⟨0, 0⟩)
  out : W.heap[m]? = some (spO o)
  em : W.heap[m + 1]? = some (spO ⟨1, 0⟩)
  wo : W.heap[m + 1 + 1]? = some (bkO fv wv xv)
  bel : Below w.heap.size w W
theorem SzSt.mono {w : World} {m : Nat} {fv wv rv xv : Value} {z : Nat} {since : Int} {o : Sp} {W V : World} (h : SzSt w m fv wv rv xv z since o W) (hb : Below W.heap.size W V) : SzSt w m fv wv rv xv z since o V :=
  ⟨kept_block hb h.bk, kept_block hb h.zo, kept_block hb h.si, kept_block hb h.re, kept_block hb h.out, kept_block hb h.em, kept_block hb h.wo, below_tr h.bel hb⟩
theorem SzSt.app {w : World} {m : Nat} {fv wv rv xv : Value} {z : Nat} {since : Int} {o : Sp} {N w1 : World} (h : SzSt w m fv wv rv xv z since o N) (hm : w.heap.size + 4 = m) (hk : ∀ n o, n < m + 3 → N.heap[n]? = some o → w1.heap[n]? = some o) (hB : Below w.heap.size w w1) (v' : Value) :
    SzSt w m fv wv rv v' z since o (w1.setCell ⟨m + 1 + 1, 2, none⟩ v') := by
  have H : ∀ n o, n ≠ m + 1 + 1 → n < m + 3 → N.heap[n]? = some o → (w1.setCell ⟨m + 1 + 1, 2, none⟩ v').heap[n]? = some o := fun n o hn hl h => (Below.heap_setCell _ _ _ _ (by simpa using hn)).trans (hk n o hl h)
  refine ⟨H _ _ (by omega) (by omega) h.bk, H _ _ (by omega) (by omega) h.zo, H _ _ (by omega) (by omega) h.si, H _ _ (by omega) (by omega) h.re, H _ _ (by omega) (by omega) h.out, H _ _ (by omega) (by omega) h.em, ?_, hB.setCell (p := ⟨m + 1 + 1, 2, none⟩) (by show _ ≤ m + 1 + 1; omega) _⟩
  have := set_one (hk _ _ (by omega) h.wo) 2 v'
  simpa using this
end Go.Proofs.YthbkcoijafehgaaGreat.L
set_option linter.unusedVariables false
set_option linter.unusedSimpArgs false
namespace Lk
/-- What came at least, and at most, up to a day, less what leaked. -/
def Bk.cumLo (b : Bk) (g : Gs) (z : Nat) : Nat → Int
  | 0 => 0
  | k + 1 => Bk.cumLo b g z k + (b.comes g z k).lo
def Bk.cumHi (b : Bk) (g : Gs) (z : Nat) : Nat → Int
  | 0 => 0
  | k + 1 => Bk.cumHi b g z k + (b.comes g z k).hi
theorem cum_le {b : Bk} (ok : Ok b) {g : Gs} {z : Nat} (hz : z < b.first.length) {s t : Nat} (h : s ≤ t) (ht : t ≤ b.flows.length) : b.cumLo g z t - b.cumLo g z s ≤ b.cumHi g z t - b.cumHi g z s := by
  induction t with
  | zero => obtain rfl : s = 0 := by omega
            omega
  | succ t ih =>
    by_cases he : s = t + 1
    · subst he; omega
    · have := ih (by omega) (by omega)
      have hf := ok.flows t z (by omega) hz
      simp only [Bk.cumLo, Bk.cumHi, Bk.comes, Bk.flowAt]
      omega
theorem mem_allK_iff {b : Bk} {z : Nat} {x : Kn} : x ∈ b.allK z ↔ x = ⟨-1, spAt b.first z⟩ ∨ ∃ r, r ∈ b.reads ∧ r.zone = (z : Int) ∧ x = ⟨r.day, r.v⟩ := by
  unfold Bk.allK
  rw [List.mem_cons, List.mem_map]
  simp only [List.mem_filter, decide_eq_true_eq]
  constructor
  · rintro (h | ⟨r, ⟨h1, h2⟩, rfl⟩)
    · exact .inl h
    · exact .inr ⟨r, h1, h2, rfl⟩
  · rintro (h | ⟨r, h1, h2, rfl⟩)
    · exact .inl h
    · exact .inr ⟨r, ⟨h1, h2⟩, rfl⟩
theorem mem_readsAt_iff {b : Bk} {z d : Int} {s : Sp} : s ∈ b.readsAt z d ↔ ∃ r, r ∈ b.reads ∧ r.zone = z ∧ r.day = d ∧ r.v = s := by
  unfold Bk.readsAt
  simp only [List.mem_map, List.mem_filter, Bool.and_eq_true, decide_eq_true_eq]
  constructor
  · rintro ⟨r, ⟨h1, h2, h3⟩, rfl⟩; exact ⟨r, h1, h2, h3, rfl⟩
  · rintro ⟨r, h1, h2, h3, rfl⟩; exact ⟨r, ⟨h1, h2, h3⟩, rfl⟩
theorem rd_day {b : Bk} (ok : Ok b) {r : Rd} (h : r ∈ b.reads) : 0 ≤ r.day ∧ r.day < b.flows.length ∧ r.v.lo ≤ r.v.hi := by
  obtain ⟨i, hi, rfl⟩ := List.getElem_of_mem h
  have := ok.reads i hi
  have e : rdAt b.reads i = b.reads[i] := by simp [rdAt, hi]
  rw [e] at this; omega
theorem meets_lo {y : Int} : ∀ (l : List Sp) (s : Sp), (meets s l).lo ≤ y ↔ s.lo ≤ y ∧ ∀ x ∈ l, x.lo ≤ y
  | [], s => by simp [meets]
  | x :: l, s => by
    have := meets_lo (y := y) l (meet s x)
    have e : meets s (x :: l) = meets (meet s x) l := rfl
    rw [e, this]
    simp only [meet, List.mem_cons, forall_eq_or_imp]
    constructor
    · rintro ⟨h1, h2⟩; exact ⟨by omega, by omega, h2⟩
    · rintro ⟨h1, h2, h3⟩; exact ⟨by omega, h3⟩
theorem meets_hi {y : Int} : ∀ (l : List Sp) (s : Sp), y ≤ (meets s l).hi ↔ y ≤ s.hi ∧ ∀ x ∈ l, y ≤ x.hi
  | [], s => by simp [meets]
  | x :: l, s => by
    have := meets_hi (y := y) l (meet s x)
    have e : meets s (x :: l) = meets (meet s x) l := rfl
    rw [e, this]
    simp only [meet, List.mem_cons, forall_eq_or_imp]
    constructor
    · rintro ⟨h1, h2⟩; exact ⟨by omega, by omega, h2⟩
    · rintro ⟨h1, h2, h3⟩; exact ⟨by omega, h3⟩
theorem fwd_lo {b : Bk} (ok : Ok b) {g : Gs} {z : Nat} : ∀ (k : Nat) (y : Int), (b.fwd g z k).lo - b.cumLo g z k ≤ y ↔ ∀ x, x ∈ b.allK z → x.day < k → x.v.lo - b.cumLo g z (x.day + 1).toNat ≤ y
  | 0, y => by
    simp only [Bk.fwd, Bk.cumLo]
    constructor
    · intro h x hx hd
      rcases mem_allK_iff.1 hx with rfl | ⟨r, hr, _, rfl⟩
      · simpa [Bk.cumLo] using h
      · have := rd_day ok hr; simp only at hd; omega
    · intro h
      have := h _ (mem_allK_iff.2 (.inl rfl)) (by simp)
      simpa [Bk.cumLo] using this
  | k + 1, y => by
    have ih := fwd_lo ok (g := g) (z := z) k y
    have e : (b.fwd g z (k + 1)).lo - b.cumLo g z (k + 1) ≤ y ↔ (b.fwd g z (k + 1)).lo ≤ y + b.cumLo g z (k + 1) := by omega
    rw [e]
    simp only [Bk.fwd]
    rw [meets_lo]
    have e2 : (addSp (b.fwd g z k) (b.comes g z k)).lo ≤ y + b.cumLo g z (k + 1) ↔ (b.fwd g z k).lo - b.cumLo g z k ≤ y := by simp only [addSp, Bk.cumLo]; omega
    rw [e2, ih]
    constructor
    · rintro ⟨h1, h2⟩ x hx hd
      by_cases hk : x.day < k
      · exact h1 x hx hk
      · rcases mem_allK_iff.1 hx with rfl | ⟨r, hr, hrz, rfl⟩
        · simp only at hk; omega
        · simp only at hk hd ⊢
          have hday : r.day = (k : Int) := by push_cast at hd; omega
          have := h2 r.v (mem_readsAt_iff.2 ⟨r, hr, hrz, hday, rfl⟩)
          rw [hday, show ((k : Int) + 1).toNat = k + 1 by omega]
          omega
    · intro h
      refine ⟨fun x hx hd => h x hx (by push_cast; omega), fun s hs => ?_⟩
      obtain ⟨r, hr, hrz, hday, rfl⟩ := mem_readsAt_iff.1 hs
      have := h ⟨r.day, r.v⟩ (mem_allK_iff.2 (.inr ⟨r, hr, hrz, rfl⟩)) (by simp only; push_cast; omega)
      simp only at this
      rw [hday, show ((k : Int) + 1).toNat = k + 1 by omega] at this
      omega
theorem fwd_hi {b : Bk} (ok : Ok b) {g : Gs} {z : Nat} : ∀ (k : Nat) (y : Int), y ≤ (b.fwd g z k).hi - b.cumHi g z k ↔ ∀ x, x ∈ b.allK z → x.day < k → y ≤ x.v.hi - b.cumHi g z (x.day + 1).toNat
  | 0, y => by
    simp only [Bk.fwd, Bk.cumHi]
    constructor
    · intro h x hx hd
      rcases mem_allK_iff.1 hx with rfl | ⟨r, hr, _, rfl⟩
      · simpa [Bk.cumHi] using h
      · have := rd_day ok hr; simp only at hd; omega
    · intro h
      have := h _ (mem_allK_iff.2 (.inl rfl)) (by simp)
      simpa [Bk.cumHi] using this
  | k + 1, y => by
    have ih := fwd_hi ok (g := g) (z := z) k y
    have e : y ≤ (b.fwd g z (k + 1)).hi - b.cumHi g z (k + 1) ↔ y + b.cumHi g z (k + 1) ≤ (b.fwd g z (k + 1)).hi := by omega
    rw [e]
    simp only [Bk.fwd]
    rw [meets_hi]
    have e2 : y + b.cumHi g z (k + 1) ≤ (addSp (b.fwd g z k) (b.comes g z k)).hi ↔ y ≤ (b.fwd g z k).hi - b.cumHi g z k := by simp only [addSp, Bk.cumHi]; omega
    rw [e2, ih]
    constructor
    · rintro ⟨h1, h2⟩ x hx hd
      by_cases hk : x.day < k
      · exact h1 x hx hk
      · rcases mem_allK_iff.1 hx with rfl | ⟨r, hr, hrz, rfl⟩
        · simp only at hk; omega
        · simp only at hk hd ⊢
          have hday : r.day = (k : Int) := by push_cast at hd; omega
          have := h2 r.v (mem_readsAt_iff.2 ⟨r, hr, hrz, hday, rfl⟩)
          rw [hday, show ((k : Int) + 1).toNat = k + 1 by omega]
          omega
    · intro h
      refine ⟨fun x hx hd => h x hx (by push_cast; omega), fun s hs => ?_⟩
      obtain ⟨r, hr, hrz, hday, rfl⟩ := mem_readsAt_iff.1 hs
      have := h ⟨r.day, r.v⟩ (mem_allK_iff.2 (.inr ⟨r, hr, hrz, rfl⟩)) (by simp only; push_cast; omega)
      simp only at this
      rw [hday, show ((k : Int) + 1).toNat = k + 1 by omega] at this
      omega
theorem okTo_iff {b : Bk} {g : Gs} {z : Nat} : ∀ n, b.okTo g z n = true ↔ ∀ k, k < n → (b.fwd g z (k + 1)).lo ≤ (b.fwd g z (k + 1)).hi
  | 0 => by simp [Bk.okTo]
  | n + 1 => by
    rw [Bk.okTo, Bool.and_eq_true, okTo_iff n, decide_eq_true_eq]
    constructor
    · rintro ⟨h1, h2⟩ k hk
      rcases Nat.lt_succ_iff_lt_or_eq.1 hk with h | rfl
      · exact h1 k h
      · exact h2
    · intro h; exact ⟨fun k hk => h k (by omega), h n (by omega)⟩
/-- What two times at which a content is known must be like. -/
def Bk.pairOk (b : Bk) (g : Gs) (z : Nat) (x y : Kn) : Prop :=
  x.v.lo + (b.cumLo g z (y.day + 1).toNat - b.cumLo g z (x.day + 1).toNat) ≤ y.v.hi ∧ y.v.lo ≤ x.v.hi + (b.cumHi g z (y.day + 1).toNat - b.cumHi g z (x.day + 1).toNat)
theorem zone_pairs {b : Bk} (ok : Ok b) {g : Gs} {z : Nat} (hz : z < b.first.length) : b.zoneB g z = true ↔ ∀ x y, x ∈ b.allK z → y ∈ b.allK z → x.day ≤ y.day → b.pairOk g z x y := by
  have hday : ∀ x, x ∈ b.allK z → -1 ≤ x.day ∧ x.day < b.flows.length ∧ x.v.lo ≤ x.v.hi := fun x hx => by
    have := mem_allK ok hz hx; omega
  rw [Bk.zoneB, okTo_iff]
  constructor
  · intro h x y hx hy hd
    have hxd := hday x hx
    have hyd := hday y hy
    have hk : (b.fwd g z (y.day + 1).toNat).lo ≤ (b.fwd g z (y.day + 1).toNat).hi := by
      cases hn : (y.day + 1).toNat with
      | zero => have := ok.first z hz; simp only [Bk.fwd]; omega
      | succ k => exact h k (by omega)
    have hlo := fwd_lo ok (g := g) (z := z) (y.day + 1).toNat
    have hhi := fwd_hi ok (g := g) (z := z) (y.day + 1).toNat
    have a1 := (hlo _).1 (Int.le_refl _) x hx (by omega)
    have a2 := (hhi _).1 (Int.le_refl _) y hy (by omega)
    have a3 := (hlo _).1 (Int.le_refl _) y hy (by omega)
    have a4 := (hhi _).1 (Int.le_refl _) x hx (by omega)
    exact ⟨by omega, by omega⟩
  · intro h k hk
    have hlo := fwd_lo ok (g := g) (z := z) (k + 1)
    have hhi := fwd_hi ok (g := g) (z := z) (k + 1)
    have key : (b.fwd g z (k + 1)).lo - b.cumLo g z (k + 1) ≤ (b.fwd g z (k + 1)).hi - b.cumLo g z (k + 1) := by
      rw [hlo]
      intro x hx hxk
      have hxd := hday x hx
      have : x.v.lo - b.cumLo g z (x.day + 1).toNat + b.cumLo g z (k + 1) - b.cumHi g z (k + 1) ≤ (b.fwd g z (k + 1)).hi - b.cumHi g z (k + 1) := by
        rw [hhi]
        intro y hy hyk
        have hyd := hday y hy
        by_cases hd : x.day ≤ y.day
        · have h1 := (h x y hx hy hd).1
          have h2 := cum_le ok (g := g) hz (s := (y.day + 1).toNat) (t := k + 1) (by omega) (by omega)
          omega
        · have h1 := (h y x hy hx (by omega)).2
          have h2 := cum_le ok (g := g) hz (s := (x.day + 1).toNat) (t := k + 1) (by omega) (by omega)
          omega
      omega
    omega
end Lk
set_option linter.unusedVariables false
set_option linter.unusedSimpArgs false
namespace Lk
/-- A book with a reading more. -/
def Bk.more (b : Bk) (r : Rd) : Bk := ⟨b.first, b.flows, b.reads ++ [r]⟩
end Lk
set_option linter.unusedVariables false
set_option linter.unusedSimpArgs false
namespace Lk
theorem bwd_lo {b : Bk} (ok : Ok b) {g : Gs} {z : Nat} (hz : z < b.first.length) : ∀ j, j < b.flows.length → ∀ y, (b.bwd g z j).lo ≤ y ↔ ∀ x, x ∈ b.allK z →
    (x.day < ((b.flows.length - j : Nat) : Int) → x.v.lo - b.cumLo g z (x.day + 1).toNat + b.cumLo g z (b.flows.length - j) ≤ y) ∧
    (((b.flows.length - j : Nat) : Int) ≤ x.day → x.v.lo - b.cumHi g z (x.day + 1).toNat + b.cumHi g z (b.flows.length - j) ≤ y)
  | 0, _, y => by
    have h := fwd_lo ok (g := g) (z := z) b.flows.length (y - b.cumLo g z b.flows.length)
    simp only [Bk.bwd, Nat.sub_zero]
    constructor
    · intro hy x hx
      have := mem_allK ok hz hx
      have a := h.1 (by omega) x hx (by omega)
      exact ⟨fun _ => by omega, fun hd => by omega⟩
    · intro hy
      have := h.2 fun x hx hd => by have := (hy x hx).1 hd; omega
      omega
  | j + 1, hj, y => by
    have ih := bwd_lo ok (g := g) hz j (by omega) (y + (b.comes g z (b.flows.length - 1 - j)).hi)
    have hf := fwd_lo ok (g := g) (z := z) (b.flows.length - 1 - j) (y - b.cumLo g z (b.flows.length - 1 - j))
    have hc := ok.flows (b.flows.length - 1 - j) z (by omega) hz
    rw [show b.flows.length - j = (b.flows.length - 1 - j) + 1 by omega] at ih
    rw [show b.flows.length - (j + 1) = b.flows.length - 1 - j by omega]
    simp only [Bk.bwd, meet]
    generalize b.flows.length - 1 - j = d at *
    have eL : b.cumLo g z (d + 1) = b.cumLo g z d + (b.comes g z d).lo := rfl
    have eH : b.cumHi g z (d + 1) = b.cumHi g z d + (b.comes g z d).hi := rfl
    have hcl : (b.comes g z d).lo ≤ (b.comes g z d).hi := by simp only [Bk.comes, Bk.flowAt]; omega
    constructor
    · intro hy x hx
      have a := hf.1 (by omega) x hx
      have c := (ih.1 (by omega)) x hx
      refine ⟨fun hd => by have := a hd; omega, fun hd => ?_⟩
      by_cases he : x.day = d
      · have := c.1 (by omega)
        rw [show (x.day + 1).toNat = d + 1 by omega] at this ⊢
        omega
      · have := c.2 (by omega); omega
    · intro hy
      have a := hf.2 fun x hx hd => by have := (hy x hx).1 hd; omega
      have c := ih.2 fun x hx => by
        have h := hy x hx
        refine ⟨fun hd => ?_, fun hd => by have := h.2 (by omega); omega⟩
        by_cases he : x.day = d
        · have := h.2 (by omega)
          rw [show (x.day + 1).toNat = d + 1 by omega] at this ⊢
          omega
        · have := h.1 (by omega); omega
      omega
theorem bwd_hi {b : Bk} (ok : Ok b) {g : Gs} {z : Nat} (hz : z < b.first.length) : ∀ j, j < b.flows.length → ∀ y, y ≤ (b.bwd g z j).hi ↔ ∀ x, x ∈ b.allK z →
    (x.day < ((b.flows.length - j : Nat) : Int) → y ≤ x.v.hi - b.cumHi g z (x.day + 1).toNat + b.cumHi g z (b.flows.length - j)) ∧
    (((b.flows.length - j : Nat) : Int) ≤ x.day → y ≤ x.v.hi - b.cumLo g z (x.day + 1).toNat + b.cumLo g z (b.flows.length - j))
  | 0, _, y => by
    have h := fwd_hi ok (g := g) (z := z) b.flows.length (y - b.cumHi g z b.flows.length)
    simp only [Bk.bwd, Nat.sub_zero]
    constructor
    · intro hy x hx
      have := mem_allK ok hz hx
      have a := h.1 (by omega) x hx (by omega)
      exact ⟨fun _ => by omega, fun hd => by omega⟩
    · intro hy
      have := h.2 fun x hx hd => by have := (hy x hx).1 hd; omega
      omega
  | j + 1, hj, y => by
    have ih := bwd_hi ok (g := g) hz j (by omega) (y + (b.comes g z (b.flows.length - 1 - j)).lo)
    have hf := fwd_hi ok (g := g) (z := z) (b.flows.length - 1 - j) (y - b.cumHi g z (b.flows.length - 1 - j))
    have hc := ok.flows (b.flows.length - 1 - j) z (by omega) hz
    rw [show b.flows.length - j = (b.flows.length - 1 - j) + 1 by omega] at ih
    rw [show b.flows.length - (j + 1) = b.flows.length - 1 - j by omega]
    simp only [Bk.bwd, meet]
    generalize b.flows.length - 1 - j = d at *
    have eL : b.cumLo g z (d + 1) = b.cumLo g z d + (b.comes g z d).lo := rfl
    have eH : b.cumHi g z (d + 1) = b.cumHi g z d + (b.comes g z d).hi := rfl
    have hcl : (b.comes g z d).lo ≤ (b.comes g z d).hi := by simp only [Bk.comes, Bk.flowAt]; omega
    constructor
    · intro hy x hx
      have a := hf.1 (by omega) x hx
      have c := (ih.1 (by omega)) x hx
      refine ⟨fun hd => by have := a hd; omega, fun hd => ?_⟩
      by_cases he : x.day = d
      · have := c.1 (by omega)
        rw [show (x.day + 1).toNat = d + 1 by omega] at this ⊢
        omega
      · have := c.2 (by omega); omega
    · intro hy
      have a := hf.2 fun x hx hd => by have := (hy x hx).1 hd; omega
      have c := ih.2 fun x hx => by
        have h := hy x hx
        refine ⟨fun hd => ?_, fun hd => by have := h.2 (by omega); omega⟩
        by_cases he : x.day = d
        · have := h.2 (by omega)
          rw [show (x.day + 1).toNat = d + 1 by omega] at this ⊢
          omega
        · have := h.1 (by omega); omega
      omega
/-- A number lies within the bounds of a day just if it agrees with all that is known. -/
def Bk.numOk (b : Bk) (g : Gs) (z d : Nat) (n : Int) : Prop := ∀ x, x ∈ b.allK z →
  (x.day ≤ (d : Int) → x.v.lo + (b.cumLo g z (d + 1) - b.cumLo g z (x.day + 1).toNat) ≤ n ∧ n ≤ x.v.hi + (b.cumHi g z (d + 1) - b.cumHi g z (x.day + 1).toNat)) ∧
  ((d : Int) < x.day → n + (b.cumLo g z (x.day + 1).toNat - b.cumLo g z (d + 1)) ≤ x.v.hi ∧ x.v.lo ≤ n + (b.cumHi g z (x.day + 1).toNat - b.cumHi g z (d + 1)))
theorem bnd_in {b : Bk} (ok : Ok b) {g : Gs} {z d : Nat} (hz : z < b.first.length) (hd : d < b.flows.length) (n : Int) : ((b.bnd g z d).lo ≤ n ∧ n ≤ (b.bnd g z d).hi) ↔ b.numOk g z d n := by
  have h1 := bwd_lo ok (g := g) hz (b.flows.length - 1 - d) (by omega) n
  have h2 := bwd_hi ok (g := g) hz (b.flows.length - 1 - d) (by omega) n
  rw [show b.flows.length - (b.flows.length - 1 - d) = d + 1 by omega] at h1 h2
  unfold Bk.bnd Bk.numOk
  rw [h1, h2]
  constructor
  · rintro ⟨a, c⟩ x hx
    have a' := a x hx
    have c' := c x hx
    refine ⟨fun h => ?_, fun h => ?_⟩
    · have := a'.1 (by omega); have := c'.1 (by omega); omega
    · have := a'.2 (by omega); have := c'.2 (by omega); omega
  · intro h
    refine ⟨fun x hx => ?_, fun x hx => ?_⟩
    · have := h x hx
      exact ⟨fun hd => by have := this.1 (by omega); omega, fun hd => by have := this.2 (by omega); omega⟩
    · have := h x hx
      exact ⟨fun hd => by have := this.1 (by omega); omega, fun hd => by have := this.2 (by omega); omega⟩
/-- What is true of a zone: its content at each time (0: at first; k + 1: at the end of day k). -/
structure TruthZ (b : Bk) (g : Gs) (z : Nat) (c : Nat → Int) : Prop where
  step : ∀ k, k < b.flows.length → c k + (b.comes g z k).lo ≤ c (k + 1) ∧ c (k + 1) ≤ c k + (b.comes g z k).hi
  known : ∀ x, x ∈ b.allK z → x.v.lo ≤ c (x.day + 1).toNat ∧ c (x.day + 1).toNat ≤ x.v.hi
theorem truth_cum {b : Bk} {g : Gs} {z : Nat} {c : Nat → Int} (h : TruthZ b g z c) {s t : Nat} (hst : s ≤ t) (ht : t ≤ b.flows.length) :
    b.cumLo g z t - b.cumLo g z s ≤ c t - c s ∧ c t - c s ≤ b.cumHi g z t - b.cumHi g z s := by
  induction t with
  | zero => obtain rfl : s = 0 := by omega
            omega
  | succ t ih =>
    by_cases he : s = t + 1
    · subst he; omega
    · have h1 := ih (by omega) (by omega)
      have h2 := h.step t (by omega)
      simp only [Bk.cumLo, Bk.cumHi]
      omega
/-- What is true agrees, and lies within the bounds. -/
theorem truth_zone {b : Bk} (ok : Ok b) {g : Gs} {z : Nat} {c : Nat → Int} (hz : z < b.first.length) (h : TruthZ b g z c) : b.zoneB g z = true := by
  rw [zone_pairs ok hz]
  intro x y hx hy hd
  have a := h.known x hx
  have e := h.known y hy
  have hxd := mem_allK ok hz hx
  have hyd := mem_allK ok hz hy
  have := truth_cum h (s := (x.day + 1).toNat) (t := (y.day + 1).toNat) (by omega) (by omega)
  unfold Bk.pairOk
  omega
theorem truth_bnd {b : Bk} (ok : Ok b) {g : Gs} {z d : Nat} {c : Nat → Int} (hz : z < b.first.length) (hd : d < b.flows.length) (h : TruthZ b g z c) : (b.bnd g z d).lo ≤ c (d + 1) ∧ c (d + 1) ≤ (b.bnd g z d).hi := by
  rw [bnd_in ok hz hd]
  intro x hx
  have a := h.known x hx
  have hxd := mem_allK ok hz hx
  refine ⟨fun hxd' => ?_, fun hxd' => ?_⟩
  · have := truth_cum h (s := (x.day + 1).toNat) (t := d + 1) (by omega) (by omega)
    omega
  · have := truth_cum h (s := d + 1) (t := (x.day + 1).toNat) (by omega) (by omega)
    omega
end Lk
set_option linter.unusedVariables false
set_option linter.unusedSimpArgs false
namespace Gas
def hasB (s : St) (p : Pt) : Bool := inB p.g s.glo s.ghi && inB p.y s.ylo s.yhi && inB p.t s.tlo s.thi && inB p.w s.wlo s.whi
theorem hasB_iff {s : St} {p : Pt} : hasB s p = true ↔ s.Has p := by
  simp only [hasB, Bool.and_eq_true, inB_iff]
  exact ⟨fun ⟨⟨⟨a, b⟩, c⟩, d⟩ => ⟨a, b, c, d⟩, fun h => ⟨⟨⟨h.g, h.y⟩, h.t⟩, h.w⟩⟩
end Gas
namespace Go.Proofs.YthbkcoijafehgaaGreat.G
open Go.RowKit Go.Sd Gas
set_option maxRecDepth 100000 in
set_option maxHeartbeats 4000000 in
theorem refHas (s : St) (p : Pt) (w : World) : Calls Tryz.prog 7 #[stV s, ptV p] w (BoolB (hasB s p) w) := by
  obtain ⟨W1, hW1⟩ : ∃ W1, w.alloc (.cells #[.int .i64 s.glo, .int .i64 s.ghi, .int .i64 s.ylo, .int .i64 s.yhi, .int .i64 s.tlo, .int .i64 s.thi, .int .i64 s.wlo, .int .i64 s.whi] 28) = W1 := ⟨_, rfl⟩
  obtain ⟨eW0, bW0, sW0⟩ := boxed hW1
  obtain ⟨W, hW⟩ : ∃ W, W1.alloc (.cells #[.int .i64 p.g, .int .i64 p.y, .int .i64 p.t, .int .i64 p.w] 31) = W := ⟨_, rfl⟩
  obtain ⟨eW1, bW1, sW1⟩ := boxed hW
  replace eW0 := (bW1.block _ (Array.getElem?_eq_some_iff.1 eW0).1).trans eW0
  have hBw : Below w.heap.size w W := (by have := sW0; have := sW1; exact (bW0.trans (bW1.mono (by omega))))
  obtain ⟨zW0, rW0, tW0⟩ := row_cells eW0
  obtain ⟨qW0_0, qW0_1, qW0_2, qW0_3, qW0_4, qW0_5, qW0_6, qW0_7⟩ := rc8 eW0
  obtain ⟨fW0_0, fW0_1, fW0_2, fW0_3, fW0_4, fW0_5, fW0_6, fW0_7⟩ := rf8 eW0
  clear rW0 tW0 eW0
  obtain ⟨zW1, rW1, tW1⟩ := row_cells eW1
  obtain ⟨qW1_0, qW1_1, qW1_2, qW1_3⟩ := rc4 eW1
  obtain ⟨fW1_0, fW1_1, fW1_2, fW1_3⟩ := rf4 eW1
  clear rW1 tW1 eW1
  have xW0 : w.heap.size ≤ w.heap.size := by omega
  have xW1 : w.heap.size ≤ W1.heap.size := by omega
  clear bW0 sW0 bW1 sW1
  have hg := grow_cell W
  go_enter Tryz.func7, Tryz.ntmps7
  go_wp2_with (go_at_call 15; refine Calls.mono (refIn _ _ _ _) ?_; rintro e w1 ⟨(_ | _), rfl, ht, rfl⟩)
  all_goals
    go_ret
    exact BoolB.mk (by unfold Hid at *; simp [hasB, *]) hBw
end Go.Proofs.YthbkcoijafehgaaGreat.G
